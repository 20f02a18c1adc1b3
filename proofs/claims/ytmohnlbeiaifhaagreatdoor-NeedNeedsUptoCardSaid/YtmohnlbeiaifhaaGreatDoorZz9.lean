/- Texts of the law NeedNeeds, part 9: lemmas; what is proved stands in the last text. -/
import Derived.Test.YtmohnlbeiaifhaaGreatDoorZz8
import Derived.Test.YtmohnlbeiaifhaaGreatDoorZz7
import Derived.Test.YtmohnlbeiaifhaaGreatDoorZz5
import Derived.Test.YtmohnlbeiaifhaaGreatDoorZz6
import Derived.Test.YtmohnlbeiaifhaaGreatDoorZz4
import Derived.Deep.Strs
import Derived.Test.YtmohnlbeiaifhaaGreatDoorCards
import Derived.Test.YtmohnlbeiaifhaaGreatDoorTie
import Derived.Deep.DeepHandedRow
import Derived.Lib.LaidTab
import Derived.Shelf.Vars
abbrev fE:=@Go.DataW.trod_struct
open Go.Proofs.Tryz
set_option maxHeartbeats 32000000
set_option linter.unusedSimpArgs false
set_option linter.unusedVariables false
set_option maxRecDepth 100000
namespace Go.AM
open Go Go.RowKit
open Go.Proofs.YtmohnlbeiaifhaaGreatDoor (OP AH Bc AZ BM B4 StrsAt str Ks FI EL digB bt AW BR)
attribute [local irreducible] AWP DU
theorem Dd (l:List UInt8):(⟨l.toArray⟩:ByteArray)=str l:=rfl
theorem Gc: ∀(u cur r:List UInt8),Cn cur (u++32::r)=Cn cur u++Cn [] r
 | [],cur,r=>by rw[List.nil_append,Gd];rfl
 |c::u,cur,r=>by
  rw[List.cons_append,Cn,Cn];split
  ·rw[Gc u [] r,bB]
  ·exact Gc u (cur++[c]) r
theorem BU (a b:List UInt8):Au (a++32::b)=Au a++Au b:=Gc a [] b
theorem NG (G:GL)(t:Bool)(ls:List (List TK0))(hl:ls.length≤100)(hs: ∀x ∈ ls,x.length≤1000):Con prog G 111 [.ro t 1 (ls.map Dh)] [] 0 (Is (.s 0 0 ls.flatten.length) [(0,.lst 134 3 (ls.flatten.map eT))] 1) No:=by
 refine cJ func111 fun E hG hE=>?_;subst hG;simp only[AX];(repeat' (first |refine A0 ?_ |refine A4 ?_ |((refine sR (fun K kp=>?_));simp(disch:=omega) only[go_sem];(repeat' (refine K _ ?_;clear K kp)))));(refine AWP.emb (BY 3 134 3 ?_) ?_;(·rfl);dsimp only);refine AB (fun k:Nat=>⟨[(4,.r (.int .i64 k)),(0,.ro t 1 (ls.map Dh)),(3,.s 0 0 (ls.take k).flatten.length)],[(0,.lst 134 3 ((ls.take k).flatten.map eT))],1⟩) (fun k=>k≤ls.length) (fun k=>ls.length - k) 0 ?_ ?_ ?_
 ·simp
 ·(exact iK hE [0])
 intro k hk
 have hle:(ls.take k).flatten.length≤1000 * 100:=by
  have:=H3 (ls:=ls.take k) (fun x hx=>hs x (cB hx));simp only[aS] at this;omega
 by_cases hlt:k<ls.length
 ·obtain⟨x,hx⟩: ∃x,ls[k]?=some x:=⟨ls[k],by simp[hlt]⟩
  have hft:=Hd hx;have hxl:=hs x (aB hx);generalize (ls.take k).flatten=q at hft hle ⊢;have d1:decide ((k:Int)<(ls.length:Int))=true:=aE (by omega);(repeat' (first |refine A0 ?_ |refine A4 ?_ |refine A3 ?_ |((refine sR (fun K kp=>?_));simp(disch:=omega) only[go_sem,hx,Dh,d1];(repeat' (refine K _ ?_;clear K kp))) |refine A2 rfl ?_));refine AB (fun j:Nat=>⟨[(5,.r (.int .i64 j)),(4,.r (.int .i64 k)),(0,.ro t 1 (ls.map Dh)),(3,.s 0 0 (q++x.take j).length)],[(0,.lst 134 3 ((q++x.take j).map eT))],1⟩) (fun j=>j≤x.length) (fun j=>x.length - j) 0 ?_ ?_ ?_
  ·simp
  ·(exact iK hE [0])
  intro j hj
  have hlj:(q++x.take j).length≤1000 * 101:=by simp;omega
  by_cases hjl:j<x.length
  ·obtain⟨y,hy⟩: ∃y,x[j]?=some y:=⟨x[j],by simp[hjl]⟩
   have htj:q++x.take (j+1)=q++x.take j++[y]:=by rw[aV,hy];simp
   generalize q++x.take j=qj at htj hlj ⊢;have d2:decide ((j:Int)<(x.length:Int))=true:=aE (by omega);(repeat' (first |refine A0 ?_ |refine A4 ?_ |refine A3 ?_ |((refine sR (fun K kp=>?_));simp(disch:=omega) only[go_sem,hx,hy,Dh,eT,d2];(repeat' (first |(refine K _ ?_;clear K kp) |(with_reducible refine And.intro ?_ ?_) |omega))) |refine A2 rfl ?_));(refine BF (j+1) ?_ ?_;rotate_left;(·(refine AJ hE [2] rfl ?_ ?_<;>simp[Ai,AY,lk,ren,renL,AA,AU,htj,eT]<;>(try omega))));omega
  ·obtain rfl:j=x.length:=by omega
   rw[aN (Nat.le_refl _),<-hft] at hlj ⊢;have d2:decide ((x.length:Int)<(x.length:Int))=false:=aC (by omega);(repeat' (first |refine A0 ?_ |refine A7 ?_ |((refine sR (fun K kp=>?_));simp(disch:=omega) only[go_sem,hx,Dh,d2];(repeat' (refine K _ ?_;clear K kp))) |refine A1 rfl ?_));(refine BF (k+1) ?_ (iK hE [0]));omega
 ·obtain rfl:k=ls.length:=by omega
  rw[aN (Nat.le_refl _)];have d1:decide ((ls.length:Int)<(ls.length:Int))=false:=aC (by omega);(repeat' (first |refine A0 ?_ |refine A7 ?_ |((refine sR (fun K kp=>?_));simp(disch:=omega) only[go_sem,d1];(repeat' (refine K _ ?_;clear K kp))) |refine A1 rfl ?_ |refine A5 ?_));(refine rJ results111 ?_;refine(BS hE [0] rfl ?_ ?_).s<;>simp[A8,AY,lk,ren,renL,AA,AU])
theorem Qy:Au [87,72,69,82,69]=[A9 (str [87,72,69,82,69])]:=rfl
theorem FR (G:GL)(l:List OP)(tr:RT OP)(h:WhOk l tr):Con prog G 112 [.ro true 5 (l.map eO)] [] 0 (Is (.ro true 3 ((IX l tr).map eT)) [] 0) No:=by
 refine cJ func112 fun E hG hE=>?_;subst hG;simp only[AX];have hl:=h.len
 by_cases h0:l=[]
 ·subst h0
  (repeat' (first |refine A0 ?_ |((refine sR (fun K kp=>?_));simp(disch:=omega) only[go_sem];(repeat' (refine K _ ?_;clear K kp))) |refine A2 rfl ?_ |refine A5 ?_));refine rJ results112 ?_;exact QS hE (by simp) 3
 ·have hp:0<l.length:=cV.2 h0
  have d0:((l.length:Int)==0)=false:=by simp;exact h0
  have tc:=Ao E.G [87,72,69,82,69] (by simp);rw[Qy] at tc;have oc:=EC E.G true tr (h.wf h0) (by rw[h.flat h0];exact h.ops) (by rw[h.flat h0];exact hl);rw[h.flat h0] at oc
  have hw:IX l tr=[[A9 (str [87,72,69,82,69])],Bw tr].flatten:=by simp[IX,h0]
  have hsl:=Cd tr;rw[h.flat h0] at hsl;rw[hw];generalize Bw tr=rt at *;have cc:=Cz E.G false [[A9 (str [87,72,69,82,69])],rt] (by simp) (by intro x hx;simp at hx;rcases hx with rfl |rfl<;>first |omega |simp);generalize [[A9 (str [87,72,69,82,69])],rt].flatten=fl at *;simp only[List.map_cons,List.map_nil,List.length_cons,List.length_nil,Dh,eT,A9,str] at tc cc;(repeat' (first |refine A0 ?_ |refine A3 ?_ |((first |refine sR (fun K kp=>?_) |refine cR tc ?_ |refine cR oc ?_ |refine cR cc ?_);simp(disch:=omega) only[go_sem,d0,Dh];(repeat' (refine K _ ?_;clear K kp))) |refine A1 rfl ?_ |refine A5 ?_));(refine rJ results112 ?_;exact eQ hE)
theorem PR {s:ByteArray}(h:goodN s):Au ([73,78,83,69,82,84,32,73,78,84,79,32]++s.toList++[32,86,65,76,85,69,83,32,40])=[A9 (str [73,78,83,69,82,84]),A9 (str [73,78,84,79]),A9 s,A9 (str [86,65,76,85,69,83])]++Av []:=by
 have e1:Au ([73,78,83,69,82,84,32,73,78,84,79,32]++s.toList++[32,86,65,76,85,69,83,32,40])=[A9 (str [73,78,83,69,82,84]),A9 (str [73,78,84,79])]++Au (s.toList++32::[86,65,76,85,69,83,32,40]):=rfl;rw[e1,BU,Cs h]
 rfl
theorem PV (G:GL)(s:ST)(hk:s.k=3)(hl:s.row.length≤6)(hc: ∀v ∈ s.row,okV v)(ht:goodN s.tab):Con prog G 59 [.agg (AI s)] [] 0 (Is (.ro true 3 ((Pk s).map eT)) [] 0) No:=by
 refine cJ func59 fun E hG hE=>?_;subst hG;simp only[AX];have htl:=ht.len;have et:=Go.Proofs.YtmohnlbeiaifhaaGreatDoor.Cp s.tab;have hh:=PR ht;have tc:=Ao E.G ([73,78,83,69,82,84,32,73,78,84,79,32]++s.tab.toList++[32,86,65,76,85,69,83,32,40]) (by simp;omega);rw[hh] at tc;generalize htb:s.tab.toList=tb at *;generalize hhd:[A9 (str [73,78,83,69,82,84]),A9 (str [73,78,84,79]),A9 s.tab,A9 (str [86,65,76,85,69,83])]=hd at *
 have hhl:hd.length=4:=by rw[<-hhd];rfl
 have hcT:Pk s=hd++Av (s.row.map B2)++[AP (str [41])]:=by rw[Pk,hhd];simp[Fk,Av]
 rw[hcT];(repeat' (first |refine A0 ?_ |refine A4 ?_ |((first |refine sR (fun K kp=>?_) |refine cR tc ?_);simp(disch:=omega) only[go_sem,AI,hk,et,Dd,CE,Aq,List.length_append,List.length_cons,List.length_nil];(repeat' (refine K _ ?_;clear K kp))) |refine A2 rfl ?_ |refine A1 rfl ?_))
 refine AB (fun k:Nat=>⟨[(6,.r (.int .i64 k)),(5,.s 1 0 (hd++Av ((s.row.map B2).take k)).length),(1,.p 0 0 0)],
  [(0,.box 30 (AI s)),(1,.lst 134 3 ((hd++Av ((s.row.map B2).take k)).map eT))],2⟩) (fun k=>k≤s.row.length) (fun k=>s.row.length - k) 0 ?_ ?_ ?_
 ·simp
 ·(refine AJ hE [0,1] rfl ?_ ?_<;>simp[Ai,AY,lk,ren,renL,AA,AU,AI,hk,et]<;>(try omega))
 intro k hkk;have tk:Au [44]=[AP (str [44])]:=rfl;have tm:=Ao E.G [44] (by simp);rw[tk] at tm;simp only[List.map_cons,List.map_nil,List.length_cons,List.length_nil,eT,AP,str] at tm
 have hle:(hd++Av ((s.row.map B2).take k)).length≤8010:=by
  have:=Dw ((s.row.map B2).take k) (by intro x hx;obtain⟨c,_,rfl⟩:=cI.1 (cB hx);have:=Ia c;omega);simp[Av] at this ⊢;omega
 by_cases hlt:k<s.row.length
 ·obtain⟨v,hx⟩: ∃x,s.row[k]?=some x:=⟨s.row[k],by simp[hlt]⟩
  have hx2:(s.row.map B2)[k]?=some (B2 v):=by rw[List.getElem?_map,hx];rfl
  obtain⟨g1,g2⟩:=hc v (aB hx);have sc:=Hs E.G v g1 g2;have d0:decide ((k:Int)<(s.row.length:Int))=true:=aE (by omega);have hvl:=Ia v
  by_cases h0:0<k
  ·have d1:decide ((k:Int)>0)=true:=aE (by omega)
   have hm:hd++Av ((s.row.map B2).take (k+1))=hd++Av ((s.row.map B2).take k)++[AP (str [44])]++B2 v:=by rw[F1 hx2 h0];simp
   generalize hd++Av ((s.row.map B2).take k)=q at hm hle ⊢;generalize B2 v=vt at *;simp only[eV] at sc;(repeat' (first |refine A0 ?_ |refine A4 ?_ |refine A3 ?_ |((first |refine sR (fun K kp=>?_) |refine cR tm ?_ |refine cR sc ?_);simp(disch:=omega) only[go_sem,AI,hx,eV,d0,d1];(repeat' (first |(refine K _ ?_;clear K kp) |(with_reducible refine And.intro ?_ ?_) |omega))) |refine A2 rfl ?_));(refine BF (k+1) ?_ ?_;rotate_left;(·(refine AJ hE [0,4] rfl ?_ ?_<;>simp[Ai,AY,lk,ren,renL,AA,AU,hm,eT,AI,AP,str]<;>(try omega))));omega
  ·obtain rfl:k=0:=by omega
   have hm:hd++Av ((s.row.map B2).take (0+1))=hd++Av ((s.row.map B2).take 0)++B2 v:=by rw[Fj hx2,List.take_zero];simp
   generalize hd++Av ((s.row.map B2).take 0)=q at hm hle ⊢;generalize B2 v=vt at *;simp only[eV] at sc;(repeat' (first |refine A0 ?_ |refine A4 ?_ |refine A3 ?_ |((first |refine sR (fun K kp=>?_) |refine cR sc ?_);simp(disch:=omega) only[go_sem,AI,hx,eV,d0];(repeat' (first |(refine K _ ?_;clear K kp) |(with_reducible refine And.intro ?_ ?_) |omega))) |refine A1 rfl ?_ |((refine A6 rfl (fun h=>?_) (fun h=>?_)<;>try simp only[Af] at h)<;>(try (exfalso;omega)))));(refine BF (0+1) ?_ ?_;rotate_left;(·(refine AJ hE [0,2] rfl ?_ ?_<;>simp[Ai,AY,lk,ren,renL,AA,AU,hm,eT,AI,AP,str]<;>(try omega))));omega
 ·obtain rfl:k=s.row.length:=by omega
  have t2:Au [41]=[AP (str [41])]:=rfl;have tn:=Ao E.G [41] (by simp);rw[t2] at tn;simp only[List.map_cons,List.map_nil,List.length_cons,List.length_nil,eT,AP,str] at tn;have e9:(s.row.map B2).take s.row.length=s.row.map B2:=aN (by simp);rw[e9] at hle ⊢;generalize hd++Av (s.row.map B2)=q at hle ⊢;have d0:decide ((s.row.length:Int)<(s.row.length:Int))=false:=aC (by omega);(repeat' (first |refine A0 ?_ |refine A7 ?_ |((first |refine sR (fun K kp=>?_) |refine cR tn ?_);simp(disch:=omega) only[go_sem,AI,d0];(repeat' (first |(refine K _ ?_;clear K kp) |(with_reducible refine And.intro ?_ ?_) |omega))) |refine A1 rfl ?_ |refine A5 ?_));(refine rJ results59 ?_;refine AG (by simp only[A8];simp(disch:=omega) only[go_sem,eT,AP,str];rfl) ?_;refine(AE hE (by simp) ?_).s;simp[A8,ren,renL,eT,AP,str])
def NO (s:ST):List UInt8:=if s.count=true then [67,79,85,78,84,32,40,32,42,32,41] else [42]
theorem Qz (s:ST)(h:s.names=[]):Au (NO s)=E8 s:=by
 unfold NO E8;cases s.count
 ·rw[if_neg (by decide),if_neg (by decide),if_pos h];rfl
 ·rw[if_pos rfl,if_pos rfl];rfl
def PZ (s:ST):List UInt8:=if s.ord.toList=[] then [] else [79,82,68,69,82,32,66,89,32]++s.ord.toList++(if s.down=true then [32,68,69,83,67] else [])
theorem TO {s:ST}(h:s.ord.toList≠[]->goodN s.ord):Au (PZ s)=Ip s:=by
 unfold PZ Ip
 by_cases h0:s.ord.toList=[]
 ·rw[if_pos h0,if_pos h0];rfl
 ·rw[if_neg h0,if_neg h0]
  have hg:=Cs (h h0)
  have e1: ∀r,Au ([79,82,68,69,82,32,66,89,32]++s.ord.toList++r)=[A9 Lx,A9 WJ]++Au (s.ord.toList++r):=fun r=>by rw[bB];rfl
  rw[e1];cases s.down
  ·simp only[bU,if_false,List.append_nil];rw[hg];rfl
  ·simp only[if_true]
   have e2:s.ord.toList++[32,68,69,83,67]=s.ord.toList++32::[68,69,83,67]:=rfl;rw[e2,BU,hg];rfl
theorem PP {s:ST}(w:List UInt8)(ht:goodN s.tab):Au ([83,69,76,69,67,84,32]++w++[32,70,82,79,77,32]++s.tab.toList)=[A9 Hm]++Au w++[A9 Ck,A9 s.tab]:=by
 have e1:[83,69,76,69,67,84,32]++w++[32,70,82,79,77,32]++s.tab.toList=[83,69,76,69,67,84]++32::(w++32::([70,82,79,77]++32::s.tab.toList)):=by simp
 rw[e1,BU,BU,BU,Cs ht]
 rfl
theorem PS (G:GL)(s:ST)(tr:RT OP)(hk:s.k=4)(ht:goodN s.tab)(hn:s.names.length≤6)(hng: ∀n ∈ s.names,goodN n)(hcn:s.count=true->s.names=[])(hw:WhOk s.wh tr)(hog:s.ord.toList≠[]->goodN s.ord)(hdo:s.down=true->s.ord.toList≠[]):
  Con prog G 59 [.agg (AI s)] [] 0 (Is (.ro true 3 ((Fg s (IX s.wh tr)).map eT)) [] 0) No:=by
 refine cJ func59 fun E hG hE=>?_;subst hG;simp only[AX]
 obtain⟨ns,hns⟩: ∃ns,ns=s.names.map fun n=>[A9 n]:=⟨_,rfl⟩
 have hnl:ns.length=s.names.length:=by rw[hns];simp
 have hinv: ∀w:AS,(w=⟨[(8,.r (.int .i64 0)),(7,.r (.string (str (NO s)))),(1,.p 0 0 0)],[(0,.box 30 (AI s))],1⟩)->w=w:=fun _ _=>rfl;cases hc:s.count
 all_goals
  have hw0:NO s=if s.count=true then [67,79,85,78,84,32,40,32,42,32,41] else [42]:=rfl
  rw[hc] at hw0;simp only[bU,if_false,if_true] at hw0;(repeat' (first |refine A0 ?_ |refine A4 ?_ |refine A3 ?_ |((refine sR (fun K kp=>?_));simp -implicitDefEqProofs (disch:=omega) only[go_sem,AI,hk,hc];(repeat' (refine K _ ?_;clear K kp))) |refine A2 rfl ?_ |refine A1 rfl ?_));refine AB (fun q:Nat×List UInt8=>⟨[(8,.r (.int .i64 q.1)),(7,.r (.string (str q.2))),(1,.p 0 0 0)],[(0,.box 30 (AI s))],1⟩) (fun q=>q.1≤s.names.length/\q.2.length≤20 * (q.1+1)/\(q.1=0->q.2=NO s)/\(0<q.1->Au q.2=B_ (ns.take q.1))) (fun q=>s.names.length - q.1) (0,NO s) ?_ ?_ ?_
  ·exact⟨by simp,by rw[hw0];simp,fun _=>rfl,fun h=>absurd h (fM 0)⟩
  ·(refine AJ hE [0] rfl ?_ ?_<;>simp[Ai,AY,lk,ren,renL,AA,AU,AI,hk,hc,hw0,str]<;>(try omega))
  rintro⟨k,wb⟩ ⟨hkl,hwl,hz,hp⟩;simp only at hkl hwl hz hp ⊢
  by_cases hlt:k<s.names.length
  ·obtain⟨n,hx⟩: ∃x,s.names[k]?=some x:=⟨s.names[k],by simp[hlt]⟩
   have hx2:ns[k]?=some [A9 n]:=by rw[hns,List.getElem?_map,hx];rfl
   have hgn:=hng n (aB hx);have hln:=hgn.len;have en:=Go.Proofs.YtmohnlbeiaifhaaGreatDoor.Cp n;have hwn:=Cs hgn;have d1:decide ((k:Int)<(s.names.length:Int))=true:=aE (by omega);generalize hnb:n.toList=nb at *
   by_cases h0:k=0
   ·have d0:((k:Int)==0)=true:=by simp[h0]
    (repeat' (first |refine A0 ?_ |refine A4 ?_ |refine A3 ?_ |((refine sR (fun K kp=>?_));simp -implicitDefEqProofs (disch:=omega) only[go_sem,AI,hx,BK,d0,d1,en];(repeat' (refine K _ ?_;clear K kp))) |refine A2 rfl ?_));(refine BF ((k+1,nb)) ?_ ?_;rotate_left;(·(refine AJ hE [0] rfl ?_ ?_<;>simp[Ai,AY,lk,ren,renL,AA,AU,AI,hk,hc,en]<;>(try omega))));refine⟨by omega,by simp only;omega,fun h=>by simp at h,fun _=>?_⟩;simp only;rw[hwn,h0];have:=Fj (show ns[0]?=some [A9 n] by rw[<-hx2,h0]);simp only[Av,List.cons_append,fC,true_and] at this;rw[this];simp[B_]
   ·have d0:((k:Int)==0)=false:=by simp;exact h0
    (repeat' (first |refine A0 ?_ |refine A4 ?_ |refine A3 ?_ |((refine sR (fun K kp=>?_));simp -implicitDefEqProofs (disch:=omega) only[go_sem,AI,hx,BK,d0,d1,en,Dd,CE,Aq,List.length_append,List.length_cons,List.length_nil];(repeat' (refine K _ ?_;clear K kp))) |refine A2 rfl ?_ |refine A1 rfl ?_));(refine BF ((k+1,wb++[32,44,32]++nb)) ?_ ?_;rotate_left;(·(refine AJ hE [0] rfl ?_ ?_<;>simp[Ai,AY,lk,ren,renL,AA,AU,AI,hk,hc,en]<;>(try omega))));refine⟨by omega,by simp;omega,fun h=>by simp at h,fun _=>?_⟩;simp only
    have e1:wb++[32,44,32]++nb=wb++32::([44]++32::nb):=by simp
    rw[e1,BU,BU,hwn,hp (by omega)];have:=F1 hx2 (show 0<k by omega);simp only[Av,List.cons_append,fC,true_and] at this;rw[this,bB];rfl
  ·obtain rfl:k=s.names.length:=by omega
   have d1:decide ((s.names.length:Int)<(s.names.length:Int))=false:=aC (by omega)
   have hwt:Au wb=E8 s:=by
    by_cases h0:s.names=[]
    ·rw[hz (by rw[h0];rfl)];exact Qz s h0
    ·have hc0:s.count=false:=by
      cases hc':s.count
      ·rfl
      ·exact(h0 (hcn hc')).elim
     rw[hp (cV.2 h0),<-hnl,aN (Nat.le_refl _),hns,E8,hc0,if_neg (by decide),if_neg h0]
   have htl:=ht.len;have et:=Go.Proofs.YtmohnlbeiaifhaaGreatDoor.Cp s.tab;have hsel:=PP wb ht;have tc:=Ao E.G ([83,69,76,69,67,84,32]++wb++[32,70,82,79,77,32]++s.tab.toList) (by simp;omega)
   have tt:=Ao E.G (PZ s) (by
    unfold PZ;split
    ·simp
    ·rename_i h0;have:=(hog h0).len;split<;>simp<;>omega)
   rw[hsel,hwt] at tc;rw[TO hog] at tt;have wcon:=FR E.G s.wh tr hw;have hwhl:=hw.lenT
   have hwl2:(E8 s).length≤200:=by
    rw[<-hwt];have:=J_ wb [];simp only[Au];omega
   have hol:(Ip s).length≤4:=by unfold Ip;split<;>(try split)<;>simp
   have hpt:Fg s (IX s.wh tr)=[[A9 Hm]++E8 s++[A9 Ck,A9 s.tab],IX s.wh tr,Ip s].flatten++Oe s:=by simp[Fg]
   rw[hpt];have cc:=NG E.G false [[A9 Hm]++E8 s++[A9 Ck,A9 s.tab],IX s.wh tr,Ip s] (by simp) (by intro x hx;simp only[bA,eU,or_false] at hx;rcases hx with rfl |rfl |rfl<;>first |omega |(simp only[List.length_append,List.length_cons,List.length_nil];omega))
   have hfl:[[A9 Hm]++E8 s++[A9 Ck,A9 s.tab],IX s.wh tr,Ip s].flatten.length≤500:=by simp;omega
   generalize [[A9 Hm]++E8 s++[A9 Ck,A9 s.tab],IX s.wh tr,Ip s].flatten=fl at *;generalize [A9 Hm]++E8 s++[A9 Ck,A9 s.tab]=q1 at *;generalize IX s.wh tr=wt at *;have hE':=Ol s.ord;have eo:=Go.Proofs.YtmohnlbeiaifhaaGreatDoor.Cp s.ord;have hoL:s.ord.toList≠[]->s.ord.toList.length≤8:=fun h=>(hog h).len
   have htB:PZ s=if s.ord.toList=[] then [] else [79,82,68,69,82,32,66,89,32]++s.ord.toList++(if s.down=true then [32,68,69,83,67] else []):=rfl
   have tk2: ∀d:Bool,decide (s.lim≥0)=d->Oe s=if d=true then [A9 Jl,⟨2,str [],s.lim⟩] else []:=by
    intro d hd;cases d
    ·rw[Oe,if_neg (of_decide_eq_false hd)];simp
    ·rw[Oe,if_pos (aZ hd)];simp
   clear hpt hsel;generalize Ip s=q3 at *;generalize htb:s.tab.toList=tb at *;simp only[List.map_cons,List.map_nil,Dh] at cc
   by_cases ho:s.ord.toList=[]
   ·have hd:s.down=false:=by
     cases hd:s.down
     ·rfl
     ·exact(hdo hd ho).elim
    have b1:(s.ord.toList==(str []).toList)=true:=by have:=hE';rw[show(⟨#[]⟩:ByteArray)=str [] from rfl] at this;rw[this];simp[ho]
    rw[if_pos ho] at htB;rw[htB] at tt;cases hl:decide (s.lim≥0)
    all_goals
     have tk2:=tk2 _ hl;rw[tk2];(repeat' (first |refine A0 ?_ |refine A3 ?_ |refine A7 ?_ |((first |refine sR (fun K kp=>?_) |refine sD (id:=37) mixed 15 [0,1,2,3,4,5,7,8,10,6,9,11,12,13,14] (fun K kp=>?_) |refine cD tc ?_ |refine cD tt ?_ |refine cD wcon ?_ |refine cD cc ?_);simp -implicitDefEqProofs (disch:=omega) only[go_sem,AI,b1,hd,hl,d1,et,Dh,Dd,CE,Aq,List.length_append,List.length_cons,List.length_nil];(repeat' (first |(refine K _ ?_;clear K kp) |(with_reducible refine And.intro ?_ ?_) |omega))) |refine A2 rfl ?_ |refine A1 rfl ?_ |refine A5 ?_))
     all_goals first |(exfalso;omega) |(refine rJ results59 ?_;refine AG (by simp only[A8];simp -implicitDefEqProofs (disch:=omega) only[go_sem,aS,List.length_cons,List.length_append,List.length_map,List.length_nil,eT,A9,Jl,Dd];rfl) ?_;refine(AE hE (by simp) ?_).s;simp(disch:=(omega)) [A8,ren,renL,aN,eT,A9,Jl,Dd])
   ·have b1:(s.ord.toList==(str []).toList)=false:=by have:=hE';rw[show(⟨#[]⟩:ByteArray)=str [] from rfl] at this;rw[this];simp[ho]
    have hol8:=hoL ho;rw[if_neg ho] at htB;cases hd:s.down
    all_goals
     rw[hd] at htB;simp only[bU,if_false,if_true,List.append_nil] at htB;rw[htB] at tt;cases hl:decide (s.lim≥0)
     all_goals
      have tk2:=tk2 _ hl;rw[tk2]
      have b1:((str s.ord.toList).toList==(str []).toList)=false:=by rw[<-eo];exact b1
      generalize hob:s.ord.toList=ob at *;(repeat' (first |refine A0 ?_ |refine A3 ?_ |refine A7 ?_ |((first |refine sR (fun K kp=>?_) |refine sD (id:=37) mixed 15 [0,1,2,3,4,5,7,8,10,6,9,11,12,13,14] (fun K kp=>?_) |refine cD tc ?_ |refine cD tt ?_ |refine cD wcon ?_ |refine cD cc ?_);simp -implicitDefEqProofs (disch:=omega) only[go_sem,AI,b1,hd,hl,d1,et,eo,Dh,Dd,CE,Aq,List.length_append,List.length_cons,List.length_nil];(repeat' (first |(refine K _ ?_;clear K kp) |(with_reducible refine And.intro ?_ ?_) |omega))) |refine A2 rfl ?_ |refine A1 rfl ?_ |refine A5 ?_))
      all_goals first |(exfalso;omega) |(refine rJ results59 ?_;refine AG (by simp only[A8];simp -implicitDefEqProofs (disch:=omega) only[go_sem,aS,List.length_cons,List.length_append,List.length_map,List.length_nil,eT,A9,Jl,Dd];rfl) ?_;refine(AE hE (by simp) ?_).s;simp(disch:=(omega)) [A8,ren,renL,aN,eT,A9,Jl,Dd])
theorem El (G:GL)(l:List OP)(hl:l.length≤1048576)(hs: ∀o ∈ l,IK o):Con prog G 107 [.ro true 5 (l.map eO)] [] 0 (Is (.r (.int .i64 (B7 l))) [] 0) No:=by
 refine cJ func107 fun E hG hE=>?_;subst hG;simp only[AX];have ec:=D5 E.G true l hl hs
 by_cases h0:l.length=0
 ·have d0:((l.length:Int)==0)=true:=by simp[h0]
  (repeat' (first |refine A0 ?_ |((refine sR (fun K kp=>?_));simp(disch:=omega) only[go_sem,d0];(repeat' (refine K _ ?_;clear K kp))) |refine A2 rfl ?_ |refine A5 ?_))
  all_goals first |(exfalso;omega) |(refine rJ results107 ?_;refine eN hE ?_;simp[A8,ren,renL,B7,h0])
 ·have d0:((l.length:Int)==0)=false:=by simp;intro e;exact h0 (by rw[e];rfl)
  (repeat' (first |refine A0 ?_ |refine A3 ?_ |((first |refine sR (fun K kp=>?_) |refine cR ec ?_);simp(disch:=omega) only[go_sem,d0];(repeat' (refine K _ ?_;clear K kp))) |refine A1 rfl ?_ |refine A5 ?_))
  all_goals first |(exfalso;omega) |(refine rJ results107 ?_;refine eN hE ?_;simp[A8,ren,renL,B7,h0])
theorem RM (G:GL)(s:ST)(o:okST s)(hk:s.k=3):Con prog G 58 [.agg (AI s)] [] 0 (Is (.r (.int .i64 (Gh s.row))) [] 0) No:=by
 refine cJ func58 fun E hG hE=>?_;subst hG;simp only[AX];have ic:=MH E.G s.row.length 1 6
 by_cases h6:s.row.length<1\/6<s.row.length
 ·rw[Sw (by omega)] at ic
  have hM:Gh s.row=1:=by rw[Gh,if_pos h6]
  rw[hM];(repeat' (first |refine A0 ?_ |refine A4 ?_ |((first |refine sR (fun K kp=>?_) |refine cR ic ?_);simp(disch:=omega) only[go_sem,AI,hk];(repeat' (refine K _ ?_;clear K kp))) |refine A2 rfl ?_ |refine A1 rfl ?_ |refine A5 ?_));(refine rJ results58 ?_;exact eQ hE)
 rw[MG (by omega) (by omega)] at ic
 have hM:Gh s.row=Cx s.row:=by rw[Gh,if_neg (by omega)]
 rw[hM];(repeat' (first |refine A0 ?_ |refine A4 ?_ |refine A3 ?_ |((first |refine sR (fun K kp=>?_) |refine cR ic ?_);simp(disch:=omega) only[go_sem,AI,hk];(repeat' (refine K _ ?_;clear K kp))) |refine A2 rfl ?_ |refine A1 rfl ?_));refine AB (fun k:Nat=>⟨[(6,.r (.int .i64 k)),(1,.p 0 0 0),(13,.r (.int .i64 3))],[(0,.box 30 (AI s))],1⟩) (fun k=>k≤s.row.length/\Cx (s.row.drop k)=Cx s.row) (fun k=>s.row.length - k) 0 ?_ ?_ ?_
 ·simp
 ·(refine AJ hE [0] rfl ?_ ?_<;>simp[Ai,AY,lk,ren,renL,AA,AU,AI,hk]<;>(try omega))
 intro k ⟨hkl,hno⟩
 by_cases hlt:k<s.row.length
 ·obtain⟨v,hx⟩: ∃x,s.row[k]?=some x:=⟨s.row[k],by simp[hlt]⟩
  rw[Ih hx] at hno;have lc:=Od E.G v (o.row v (aB hx));simp only[eV] at lc;have d1:decide ((k:Int)<(s.row.length:Int))=true:=aE (by omega)
  by_cases hn:Bc v.k v.n v.s=0
  ·rw[if_neg (by simpa using hn)] at hno
   rw[hn] at lc;(repeat' (first |refine A0 ?_ |refine A4 ?_ |refine A3 ?_ |((first |refine sR (fun K kp=>?_) |refine cR lc ?_);simp(disch:=omega) only[go_sem,AI,hx,eV,d1];(repeat' (refine K _ ?_;clear K kp))) |refine A2 rfl ?_ |refine A1 rfl ?_));(refine BF (k+1) ?_ ?_;rotate_left;(·(refine AJ hE [0] rfl ?_ ?_<;>simp[Ai,AY,lk,ren,renL,AA,AU,AI]<;>(try omega))));exact⟨by omega,hno⟩
  ·rw[if_pos hn] at hno
   have b1:(Bc v.k v.n v.s !=0)=true:=by simpa using hn
   (repeat' (first |refine A0 ?_ |refine A4 ?_ |refine A3 ?_ |((first |refine sR (fun K kp=>?_) |refine cR lc ?_);simp(disch:=omega) only[go_sem,AI,hx,eV,d1,b1];(repeat' (refine K _ ?_;clear K kp))) |refine A2 rfl ?_ |refine A5 ?_));(refine rJ results58 ?_;refine eN hE ?_;simp[A8,ren,renL,hno])
 ·have d1:decide ((k:Int)<(s.row.length:Int))=false:=aC (by omega)
  (repeat' (first |refine A0 ?_ |refine A7 ?_ |((refine sR (fun K kp=>?_));simp(disch:=omega) only[go_sem,AI,d1];(repeat' (refine K _ ?_;clear K kp))) |refine A1 rfl ?_ |refine A5 ?_));(refine rJ results58 ?_;refine eN hE ?_;simp[A8,ren,renL]);rw[<-hno,aR (by omega)];rfl
theorem RL (G:GL)(s:ST)(o:okST s)(hk:s.k=4):Con prog G 58 [.agg (AI s)] [] 0 (Is (.r (.int .i64 (B5 s))) [] 0) No:=by
 refine cJ func58 fun E hG hE=>?_;subst hG;simp only[AX];have he:=Ol s.ord
 by_cases h6:6<s.names.length
 ·have hM:B5 s=1:=by rw[B5,if_pos h6]
  rw[hM];have d1:decide ((s.names.length:Int)>6)=true:=aE (by omega);(repeat' (first |refine A0 ?_ |refine A4 ?_ |((refine sR (fun K kp=>?_));simp(disch:=omega) only[go_sem,AI,hk,d1];(repeat' (refine K _ ?_;clear K kp))) |refine A2 rfl ?_ |refine A1 rfl ?_ |refine A5 ?_));(refine rJ results58 ?_;exact eQ hE)
 have d1:decide ((s.names.length:Int)>6)=false:=aC (by omega)
 by_cases hl:s.lim< -1
 ·have hM:B5 s=3:=by rw[B5,if_neg h6,if_pos hl]
  rw[hM];have d2:decide (s.lim< -1)=true:=aE hl;(repeat' (first |refine A0 ?_ |refine A4 ?_ |refine A3 ?_ |((refine sR (fun K kp=>?_));simp(disch:=omega) only[go_sem,AI,hk,d1,d2];(repeat' (refine K _ ?_;clear K kp))) |refine A2 rfl ?_ |refine A1 rfl ?_ |refine A5 ?_));(refine rJ results58 ?_;exact eQ hE)
 have d2:decide (s.lim< -1)=false:=aC hl
 cases hf:((s.count&&UM s)||(s.down&&Oo s.ord)) with
 |true=>
  have hM:B5 s=6:=by rw[B5,if_neg h6,if_neg hl,if_pos hf]
  rw[hM];have hN:UM s=decide ((s.names.length:Int)>0):=rfl;have hE':Oo s.ord=(s.ord.toList==ByteArray.toList ⟨#[]⟩):=rfl
  cases hc:s.count<;>cases hd:s.down<;>cases hn:decide ((s.names.length:Int)>0)<;>cases ho:(s.ord.toList==ByteArray.toList ⟨#[]⟩)
  all_goals
   rw[hN,hE',hc,hd,hn,ho] at hf
   first
    |(exfalso;simp at hf;done)
    |((repeat' (first |refine A0 ?_ |refine A4 ?_ |refine A3 ?_ |((refine sR (fun K kp=>?_));simp(disch:=omega) only[go_sem,AI,hk,d1,d2,hc,hd,hn,ho];(repeat' (refine K _ ?_;clear K kp))) |refine A2 rfl ?_ |refine A1 rfl ?_ |refine A5 ?_))
      (refine rJ results58 ?_;refine eN hE ?_;simp[A8,ren,renL]))
 |false=>
  have hM:B5 s=if Bi s.names≠0 then Bi s.names else if B7 s.wh≠0 then B7 s.wh else if Oo s.ord then 0 else AH s.ord:=by
   rw[B5,if_neg h6,if_neg hl,if_neg (by simp[hf])]
  rw[hM];have hN:UM s=decide ((s.names.length:Int)>0):=rfl;have hE':Oo s.ord=(s.ord.toList==ByteArray.toList ⟨#[]⟩):=rfl;have wcon:=El E.G s.wh o.lw o.wh;have nco:=CB E.G s.ord o.ord;rw[hN,hE'] at hf
  cases hc:s.count<;>cases hd:s.down<;>cases hn:decide ((s.names.length:Int)>0)<;>cases ho:(s.ord.toList==ByteArray.toList ⟨#[]⟩)
  all_goals
   rw[hc,hd,hn,ho] at hf
   first
    |(exfalso;simp at hf;done)
    |((repeat' (first |refine A0 ?_ |refine A4 ?_ |refine A3 ?_ |((refine sR (fun K kp=>?_));simp(disch:=omega) only[go_sem,AI,hk,d1,d2,hc,hd,hn,ho];(repeat' (refine K _ ?_;clear K kp))) |refine A2 rfl ?_ |refine A1 rfl ?_))
      refine AB (fun k:Nat=>⟨[(8,.r (.int .i64 k)),(1,.p 0 0 0),(13,.r (.int .i64 4))],[(0,.box 30 (AI s))],1⟩) (fun k=>k≤s.names.length/\Bi (s.names.drop k)=Bi s.names) (fun k=>s.names.length - k) 0 ?_ ?_ ?_
      ·simp
      ·(refine AJ hE [0] rfl ?_ ?_<;>simp[Ai,AY,lk,ren,renL,AA,AU,AI,hk,hc,hd]<;>(try omega))
      intro k ⟨hkl,hno⟩
      by_cases hlt:k<s.names.length
      ·obtain⟨n,hx⟩: ∃x,s.names[k]?=some x:=⟨s.names[k],by simp[hlt]⟩
       rw[KN hx] at hno;have lc:=CB E.G n (o.names n (aB hx));have d3:decide ((k:Int)<(s.names.length:Int))=true:=aE (by omega)
       by_cases hz:AH n=0
       ·rw[if_neg (by simpa using hz)] at hno
        rw[hz] at lc;(repeat' (first |refine A0 ?_ |refine A4 ?_ |refine A3 ?_ |((first |refine sR (fun K kp=>?_) |refine cR lc ?_);simp(disch:=omega) only[go_sem,AI,hx,BK,d3];(repeat' (refine K _ ?_;clear K kp))) |refine A2 rfl ?_ |refine A1 rfl ?_));(refine BF (k+1) ?_ ?_;rotate_left;(·(refine AJ hE [0] rfl ?_ ?_<;>simp[Ai,AY,lk,ren,renL,AA,AU,AI]<;>(try omega))));exact⟨by omega,hno⟩
       ·rw[if_pos hz] at hno
        have b1:(AH n !=0)=true:=by simpa using hz
        (repeat' (first |refine A0 ?_ |refine A4 ?_ |refine A3 ?_ |((first |refine sR (fun K kp=>?_) |refine cR lc ?_);simp(disch:=omega) only[go_sem,AI,hx,BK,d3,b1];(repeat' (refine K _ ?_;clear K kp))) |refine A2 rfl ?_ |refine A5 ?_));(refine rJ results58 ?_;refine eN hE ?_;simp[A8,ren,renL,<-hno,hz])
      ·have d3:decide ((k:Int)<(s.names.length:Int))=false:=aC (by omega)
       have hz:Bi s.names=0:=by rw[<-hno,aR (by omega)];rfl
       have ho2:=he.symm.trans ho;simp only[aP,decide_eq_false_iff_not] at ho2
       by_cases hw:B7 s.wh=0
       ·rw[hw] at wcon
        (repeat' (first |refine A0 ?_ |refine A3 ?_ |refine A7 ?_ |((first |refine sR (fun K kp=>?_) |refine cR wcon ?_ |refine cR nco ?_);simp(disch:=omega) only[go_sem,AI,d3,hc,hd,ho];(repeat' (refine K _ ?_;clear K kp))) |refine A2 rfl ?_ |refine A1 rfl ?_ |refine A5 ?_));(refine rJ results58 ?_;refine eN hE ?_;simp[A8,ren,renL,hz,hw,hE',ho2])
       ·have b1:(B7 s.wh==0)=false:=by simpa using hw
        (repeat' (first |refine A0 ?_ |refine A3 ?_ |refine A7 ?_ |((first |refine sR (fun K kp=>?_) |refine cR wcon ?_);simp(disch:=omega) only[go_sem,AI,d3,hc,hd,ho,b1];(repeat' (refine K _ ?_;clear K kp))) |refine A1 rfl ?_ |refine A5 ?_))
        (refine rJ results58 ?_;refine eN hE ?_;simp[A8,ren,renL,hz,hw]))
theorem Tv (G:GL)(s:ST)(o:okST s)(h1:1≤s.k):Con prog G 58 [.agg (AI s)] [] 0 (Is (.r (.int .i64 (AR s))) [] 0) No:=by
 by_cases k1:s.k=1
 ·have hM:AR s=Ag s.cols:=by simp[AR,k1]
  rw[hM];exact Lu G s k1 o.lc o.cols
 by_cases k3:s.k=3
 ·have hM:AR s=Gh s.row:=by simp[AR,k3]
  rw[hM];exact RM G s o k3
 by_cases k4:s.k=4
 ·have hM:AR s=B5 s:=by simp[AR,k4]
  rw[hM];exact RL G s o k4
 have b1:(s.k==1)=false:=by simpa using k1
 have b3:(s.k==3)=false:=by simpa using k3
 have b4:(s.k==4)=false:=by simpa using k4
 by_cases k5:s.k=5
 ·refine cJ func58 fun E hG hE=>?_;subst hG;simp only[AX]
  have sc:=CB E.G s.set o.set;have tc:=D5 E.G true s.to o.lt o.to;have wcon:=El E.G s.wh o.lw o.wh
  have hM:AR s=(if AH s.set≠0 then AH s.set else if AZ s.to≠0 then AZ s.to else B7 s.wh):=by simp[AR,k5]
  rw[hM]
  by_cases g1:AH s.set=0
  ·rw[g1] at sc
   by_cases g2:AZ s.to=0
   ·rw[g2] at tc
    (repeat' (first |refine A0 ?_ |refine A4 ?_ |((first |refine sR (fun K kp=>?_) |refine cR sc ?_ |refine cR tc ?_ |refine cR wcon ?_);simp(disch:=omega) only[go_sem,AI,k5];(repeat' (refine K _ ?_;clear K kp))) |refine A2 rfl ?_ |refine A1 rfl ?_ |refine A5 ?_));(refine rJ results58 ?_;refine eN hE ?_;simp[A8,ren,renL,g1,g2])
   ·have c2:(AZ s.to==0)=false:=by simpa using g2
    (repeat' (first |refine A0 ?_ |refine A4 ?_ |refine A3 ?_ |((first |refine sR (fun K kp=>?_) |refine cR sc ?_ |refine cR tc ?_);simp(disch:=omega) only[go_sem,AI,k5,c2];(repeat' (refine K _ ?_;clear K kp))) |refine A2 rfl ?_ |refine A1 rfl ?_ |refine A5 ?_));(refine rJ results58 ?_;refine eN hE ?_;simp[A8,ren,renL,g1,g2])
  ·have c1:(AH s.set==0)=false:=by simpa using g1
   (repeat' (first |refine A0 ?_ |refine A4 ?_ |refine A3 ?_ |((first |refine sR (fun K kp=>?_) |refine cR sc ?_);simp(disch:=omega) only[go_sem,AI,k5,c1];(repeat' (refine K _ ?_;clear K kp))) |refine A2 rfl ?_ |refine A1 rfl ?_ |refine A5 ?_));(refine rJ results58 ?_;refine eN hE ?_;simp[A8,ren,renL,g1])
 have b5:(s.k==5)=false:=by simpa using k5
 by_cases k6:s.k=6
 ·refine cJ func58 fun E hG hE=>?_;subst hG;simp only[AX]
  have wcon:=El E.G s.wh o.lw o.wh
  have hM:AR s=B7 s.wh:=by simp[AR,k6]
  rw[hM];(repeat' (first |refine A0 ?_ |refine A4 ?_ |((first |refine sR (fun K kp=>?_) |refine cR wcon ?_);simp(disch:=omega) only[go_sem,AI,k6];(repeat' (refine K _ ?_;clear K kp))) |refine A2 rfl ?_ |refine A1 rfl ?_ |refine A5 ?_));(refine rJ results58 ?_;exact eQ hE)
 have b6:(s.k==6)=false:=by simpa using k6
 have hM:AR s=0:=by simp[AR,k1,k3,k4,k5,k6]
 rw[hM];refine cJ func58 fun E hG hE=>?_;subst hG;simp only[AX];(repeat' (first |refine A0 ?_ |refine A4 ?_ |refine A3 ?_ |((refine sR (fun K kp=>?_));simp(disch:=omega) only[go_sem,AI,b1,b3,b4,b5,b6];(repeat' (refine K _ ?_;clear K kp))) |refine A1 rfl ?_ |refine A5 ?_));(refine rJ results58 ?_;exact eQ hE)
theorem TS {s:ByteArray}(h:goodN s):Au ([68,82,79,80,32,84,65,66,76,69,32]++s.toList)=[A9 (str [68,82,79,80]),A9 (str [84,65,66,76,69]),A9 s]:=by
 have e1:Au ([68,82,79,80,32,84,65,66,76,69,32]++s.toList)=[A9 (str [68,82,79,80]),A9 (str [84,65,66,76,69])]++Au s.toList:=rfl;rw[e1,Cs h];rfl
theorem Uw {s t:ByteArray}(h:goodN s)(h':goodN t):Au ([85,80,68,65,84,69,32]++s.toList++[32,83,69,84,32]++t.toList++[32,61])=[A9 (str [85,80,68,65,84,69]),A9 s,A9 (str [83,69,84]),A9 t,AP (str [61])]:=by
 have e1:[85,80,68,65,84,69,32]++s.toList++[32,83,69,84,32]++t.toList++[32,61]=[85,80,68,65,84,69]++32::(s.toList++32::([83,69,84]++32::(t.toList++32::[61]))):=by simp
 rw[e1,BU,BU,BU,BU,Cs h,Cs h'];rfl
theorem Uz {s:ByteArray}(h:goodN s):Au ([68,69,76,69,84,69,32,70,82,79,77,32]++s.toList)=[A9 (str [68,69,76,69,84,69]),A9 Ck,A9 s]:=by
 have e1:Au ([68,69,76,69,84,69,32,70,82,79,77,32]++s.toList)=[A9 (str [68,69,76,69,84,69]),A9 Ck]++Au s.toList:=rfl;rw[e1,Cs h];rfl
def UW (k:Int):List UInt8:=if k=7 then [66,69,71,73,78] else if k=8 then [67,79,77,77,73,84] else [82,79,76,76,66,65,67,75]
theorem W3 (k:Int):(UW k).length≤1000000:=by
 unfold UW
 repeat' split
 all_goals simp
theorem Uy (k:Int):Au (UW k)=[A9 (On k)]:=by
 unfold UW On
 repeat' split
 all_goals rfl
theorem R3 (G:GL)(s:ST)(trW trT:RT OP)(h:OkSt s trW trT):Con prog G 59 [.agg (AI s)] [] 0 (Is (.ro true 3 ((BQ s trW trT).map eT)) [] 0) No:=by
 have h1:=h.lo;have h9:=h.hi
 obtain hk |hk |hk |hk |hk |hk |hk |hk |hk:s.k=1\/s.k=2\/s.k=3\/s.k=4\/s.k=5\/s.k=6\/s.k=7\/s.k=8\/s.k=9:=by omega
 ·have hs:BQ s trW trT=D2 s:=by simp[BQ,hk]
  rw[hs];exact KC G s hk (h.cols hk).1 (h.cols hk).2 (h.tab (by omega))
 ·have hs:BQ s trW trT=QV s:=by simp[BQ,hk]
  rw[hs];refine cJ func59 fun E hG hE=>?_;subst hG;simp only[AX];have ht:=h.tab (by omega);have htl:=ht.len;have et:=Go.Proofs.YtmohnlbeiaifhaaGreatDoor.Cp s.tab;have tc:=Ao E.G ([68,82,79,80,32,84,65,66,76,69,32]++s.tab.toList) (by simp;omega);rw[TS ht] at tc;have hd:QV s=[A9 (str [68,82,79,80]),A9 (str [84,65,66,76,69]),A9 s.tab]:=rfl;rw[hd];generalize [A9 (str [68,82,79,80]),A9 (str [84,65,66,76,69]),A9 s.tab]=dt at *;generalize htb:s.tab.toList=tb at *;(repeat' (first |refine A0 ?_ |refine A4 ?_ |((first |refine sR (fun K kp=>?_) |refine cR tc ?_);simp -implicitDefEqProofs (disch:=omega) only[go_sem,AI,hk,et,Dd,CE,Aq,List.length_append,List.length_cons,List.length_nil];(repeat' (refine K _ ?_;clear K kp))) |refine A2 rfl ?_ |refine A1 rfl ?_ |refine A5 ?_));(refine rJ results59 ?_;refine AG (by simp only[A8];simp -implicitDefEqProofs (disch:=omega) only[go_sem];rfl) ?_;refine(AE hE (by simp) ?_).s;simp[A8,ren,renL])
 ·have hs:BQ s trW trT=Pk s:=by simp[BQ,hk]
  rw[hs];exact PV G s hk (h.row hk).1 (h.row hk).2 (h.tab (by omega))
 ·have hs:BQ s trW trT=Fg s (IX s.wh trW):=by simp[BQ,hk]
  rw[hs];exact PS G s trW hk (h.tab (by omega)) (h.names hk).1 (h.names hk).2 (h.cnt hk) (h.wh (.inl hk)) (h.ord hk) (h.down hk)
 ·have hs:BQ s trW trT=OI s (Bw trT) (IX s.wh trW):=by simp[BQ,hk]
  rw[hs];refine cJ func59 fun E hG hE=>?_;subst hG;simp only[AX];have ht:=h.tab (by omega);have htl:=ht.len;have hst:=h.set hk;have hsl:=hst.len;have et:=Go.Proofs.YtmohnlbeiaifhaaGreatDoor.Cp s.tab;have es:=Go.Proofs.YtmohnlbeiaifhaaGreatDoor.Cp s.set;have tc:=Ao E.G ([85,80,68,65,84,69,32]++s.tab.toList++[32,83,69,84,32]++s.set.toList++[32,61]) (by simp;omega);rw[Uw ht hst] at tc;have hw:=h.wh (.inr (.inl hk));have hto:=h.to hk;have wcon:=FR E.G s.wh trW hw;have hwl:=hw.lenT;have sc:=EC E.G true trT hto.wf (by rw[hto.flat];exact hto.ops) (by rw[hto.flat];exact hto.len);rw[hto.flat] at sc;have htl2:=hto.lenT;generalize IX s.wh trW=wt at *;generalize Bw trT=tt at *;have cc:=Cz E.G false [[A9 (str [85,80,68,65,84,69]),A9 s.tab,A9 (str [83,69,84]),A9 s.set,AP (str [61])],tt,wt] (by simp) (by intro x hx;simp at hx;rcases hx with rfl |rfl |rfl<;>first |omega |simp)
  have hv2:[[A9 (str [85,80,68,65,84,69]),A9 s.tab,A9 (str [83,69,84]),A9 s.set,AP (str [61])],tt,wt].flatten=OI s tt wt:=by simp[OI]
  rw[hv2] at cc;clear hv2;generalize OI s tt wt=ut at *;generalize [A9 (str [85,80,68,65,84,69]),A9 s.tab,A9 (str [83,69,84]),A9 s.set,AP (str [61])]=q1 at *;simp only[List.map_cons,List.map_nil,Dh] at cc;generalize htb:s.tab.toList=tb at *;generalize hsb:s.set.toList=sb at *;(repeat' (first |refine A0 ?_ |refine A4 ?_ |((first |refine sR (fun K kp=>?_) |refine sD (id:=42) mixed 18 [0,1,2,3,4,5,6,7,9,10,12,13,8,11,14,15,16,17] (fun K kp=>?_) |refine cD tc ?_ |refine cD sc ?_ |refine cD wcon ?_ |refine cD cc ?_);simp -implicitDefEqProofs (disch:=omega) only[go_sem,AI,hk,et,es,Dh,Dd,CE,Aq,List.length_append,List.length_cons,List.length_nil];(repeat' (refine K _ ?_;clear K kp))) |refine A2 rfl ?_ |refine A1 rfl ?_ |refine A5 ?_));(refine rJ results59 ?_;exact eQ hE)
 ·have hs:BQ s trW trT=QY s (IX s.wh trW):=by simp[BQ,hk]
  rw[hs];refine cJ func59 fun E hG hE=>?_;subst hG;simp only[AX];have ht:=h.tab (by omega);have htl:=ht.len;have et:=Go.Proofs.YtmohnlbeiaifhaaGreatDoor.Cp s.tab;have tc:=Ao E.G ([68,69,76,69,84,69,32,70,82,79,77,32]++s.tab.toList) (by simp;omega);rw[Uz ht] at tc;have hw:=h.wh (.inr (.inr hk));have wcon:=FR E.G s.wh trW hw;have hwl:=hw.lenT;generalize IX s.wh trW=wt at *;have cc:=Cz E.G false [[A9 (str [68,69,76,69,84,69]),A9 Ck,A9 s.tab],wt] (by simp) (by intro x hx;simp at hx;rcases hx with rfl |rfl<;>first |omega |simp)
  have hv2:[[A9 (str [68,69,76,69,84,69]),A9 Ck,A9 s.tab],wt].flatten=QY s wt:=by simp[QY]
  rw[hv2] at cc;clear hv2;generalize QY s wt=ut at *;generalize [A9 (str [68,69,76,69,84,69]),A9 Ck,A9 s.tab]=q1 at *;simp only[List.map_cons,List.map_nil,Dh] at cc;generalize htb:s.tab.toList=tb at *;(repeat' (first |refine A0 ?_ |refine A4 ?_ |((first |refine sR (fun K kp=>?_) |refine sD (id:=44) mixed 10 [0,1,2,4,5,3,6,7,8,9] (fun K kp=>?_) |refine cD tc ?_ |refine cD wcon ?_ |refine cD cc ?_);simp -implicitDefEqProofs (disch:=omega) only[go_sem,AI,hk,et,Dh,Dd,CE,Aq,List.length_append,List.length_cons,List.length_nil];(repeat' (refine K _ ?_;clear K kp))) |refine A2 rfl ?_ |refine A1 rfl ?_ |refine A5 ?_));(refine rJ results59 ?_;exact eQ hE)
 all_goals
  have hs:BQ s trW trT=[A9 (On s.k)]:=by simp[BQ,hk]
  rw[hs];refine cJ func59 fun E hG hE=>?_;subst hG;simp only[AX];have tc:=Ao E.G (UW s.k) (W3 s.k);rw[Uy] at tc;generalize [A9 (On s.k)]=q1 at *;simp only[UW,hk] at tc;simp only[str] at tc;(repeat' (first |refine A0 ?_ |refine A4 ?_ |refine A3 ?_ |((first |refine sR (fun K kp=>?_) |refine cR tc ?_);simp -implicitDefEqProofs (disch:=omega) only[go_sem,AI,hk];(repeat' (refine K _ ?_;clear K kp))) |refine A2 rfl ?_ |refine A1 rfl ?_ |refine A5 ?_));(refine rJ results59 ?_;refine AG (by simp only[A8];simp -implicitDefEqProofs (disch:=omega) only[go_sem];rfl) ?_;refine(AE hE (by simp) ?_).s;simp[A8,ren,renL])
structure Atoms (s:ST)(t c r n w o se to li:Bool):Prop where
 t:(s.tab.toList==ByteArray.toList ⟨#[]⟩)=t
 c:decide ((s.cols.length:Int)>0)=c
 r:decide ((s.row.length:Int)>0)=r
 n:decide ((s.names.length:Int)>0)=n
 w:decide ((s.wh.length:Int)>0)=w
 o:(s.ord.toList==ByteArray.toList ⟨#[]⟩)=o
 se:(s.set.toList==ByteArray.toList ⟨#[]⟩)=se
 to:decide ((s.to.length:Int)>0)=to
 li:(s.lim != -1)=li
def MT (k:Int)(t c r n w o se to li ct dn:Bool):Bool:=
 (decide (k≥7)&& !t)||(!(k==1)&&c)||(!(k==3)&&r)||(!(k==4)&&(n||ct|| !o||dn||li))||(!(k==5)&&(!se||to))||(!(k==4)&& !(k==5)&& !(k==6)&&w)
theorem beq0 {α:Type}(l:List α):((l.length:Int)==0)= !decide ((l.length:Int)>0):=by
 cases l with
 |nil=>rfl
 |cons x r=>
  have h1:(((x::r).length:Int)==0)=false:=by simp;omega
  have h2:decide (((x::r).length:Int)>0)=true:=by simp
  rw[h1,h2];rfl
theorem SK {s:ST}{t c r n w o se to li:Bool}(h:Atoms s t c r n w o se to li)(h1:1≤s.k)(h9:s.k≤9):CT s (D0 s)= !MT s.k t c r n w o se to li s.count s.down:=by
 have e0:ByteArray.toList b0=ByteArray.toList ⟨#[]⟩:=rfl;have z:(([]:List Nat).length:Int)=0:=rfl
 have hl: ∀(b:Bool),(s.lim != -1)=b->(s.lim== -1)= !b:=by intro b hb;rw[<-hb];simp[bne]
 have hl:=hl _ h.li
 have hs: ∀x:ByteArray,(x.toList==x.toList)=true:=fun x=>by simp
 have hn: ∀l:Nat,((l:Int)==(l:Int))=true:=fun l=>by simp
 have hb: ∀b:Bool,(b==b)=true:=fun b=>by simp
 have hi:(s.lim==s.lim)=true:=by simp
 have hf: ∀b:Bool,(b==false)= !b:=fun b=>by cases b<;>rfl
 have gt:=h.t;have gc:=h.c;have gr:=h.r;have gn:=h.n;have gw:=h.w;have go:=h.o;have gs:=h.se;have gto:=h.to
 obtain hk |hk |hk |hk |hk |hk |hk |hk |hk:s.k=1\/s.k=2\/s.k=3\/s.k=4\/s.k=5\/s.k=6\/s.k=7\/s.k=8\/s.k=9:=by omega
 all_goals
  simp only[CT,D0,hk,MT,show ¬(2:Int)=1 by decide,show ¬(3:Int)=1 by decide,show ¬(4:Int)=1 by decide,show ¬(5:Int)=1 by decide,show ¬(6:Int)=1 by decide,show ¬(7:Int)=1 by decide,show ¬(8:Int)=1 by decide,show ¬(9:Int)=1 by decide,
   show ¬(3:Int)=2 by decide,show ¬(4:Int)=2 by decide,show ¬(5:Int)=2 by decide,show ¬(6:Int)=2 by decide,show ¬(7:Int)=2 by decide,show ¬(8:Int)=2 by decide,show ¬(9:Int)=2 by decide,
   show ¬(4:Int)=3 by decide,show ¬(5:Int)=3 by decide,show ¬(6:Int)=3 by decide,show ¬(7:Int)=3 by decide,show ¬(8:Int)=3 by decide,show ¬(9:Int)=3 by decide,
   show ¬(5:Int)=4 by decide,show ¬(6:Int)=4 by decide,show ¬(7:Int)=4 by decide,show ¬(8:Int)=4 by decide,show ¬(9:Int)=4 by decide,
   show ¬(6:Int)=5 by decide,show ¬(7:Int)=5 by decide,show ¬(8:Int)=5 by decide,show ¬(9:Int)=5 by decide,
   show ¬(7:Int)=6 by decide,show ¬(8:Int)=6 by decide,show ¬(9:Int)=6 by decide,if_true,if_false,hs,hn,hb,hi,e0,List.length_nil,Int.natCast_zero,Int.cast_ofNat_Int,beq0,hl,hf,gt,gc,gr,gn,gw,go,gs,gto]
  clear gt gc gr gn gw go gs gto hl h hi;generalize s.count=ct;generalize s.down=dn
  revert t c r n w o se to li ct dn
  decide+kernel
theorem TV {s:ST}(h:okP s)(n:Nat){t c r nn w o se to li:Bool}(a:Atoms s t c r nn w o se to li):P9 s n=if MT s.k t c r nn w o se to li s.count s.down=true then 6 else if 100<n then 10 else 0:=by
 have hh: ¬(s.k<7/\AH s.tab≠0):=fun⟨x,y⟩=>y (h.tab x);have h1:=h.lo;have h9:=h.hi;have hb:=SK a h1 h9;rw[P9,if_neg (by omega)];cases he:MT s.k t c r nn w o se to li s.count s.down
 ·rw[he] at hb
  rw[D3 hh h.parts hb];rfl
 ·rw[he] at hb
  rw[CR hh h.parts hb];rfl
theorem UR (G:GL)(s:ST)(o:okST s)(trW trT:RT OP)(h:okP s->OkSt s trW trT):Con prog G 28 [.agg (AI s)] [] 0 (Is (.r (.int .i64 (P9 s (BQ s trW trT).length))) [] 0) No:=by
 have ic:=MH G s.k 1 9
 by_cases h19:s.k<1\/9<s.k
 ·have hM: ∀n,P9 s n=2:=fun n=>by rw[P9,if_pos h19]
  rw[hM];rw[Sw (by omega)] at ic;refine cJ func28 fun E hG hE=>?_;subst hG;simp only[AX];(repeat' (first |refine A0 ?_ |((first |refine sR (fun K kp=>?_) |refine cR ic ?_);simp -implicitDefEqProofs (disch:=omega) only[go_sem,AI];(repeat' (refine K _ ?_;clear K kp))) |refine A2 rfl ?_ |refine A5 ?_));(refine rJ results28 ?_;exact eQ hE)
 rw[MG (by omega) (by omega)] at ic;have nc:=CB G s.tab o.tab
 by_cases hn:s.k<7/\AH s.tab≠0
 ·have hM: ∀n,P9 s n=AH s.tab:=fun n=>by rw[P9,if_neg h19,CQ hn.1 hn.2,if_pos hn.2]
  rw[hM];have d7:decide (s.k<7)=true:=aE hn.1
  have b1:(AH s.tab==0)=false:=by simpa using hn.2
  have b2:(AH s.tab !=0)=true:=by simpa using hn.2
  refine cJ func28 fun E hG hE=>?_;subst hG;simp only[AX];(repeat' (first |refine A0 ?_ |refine A3 ?_ |((first |refine sR (fun K kp=>?_) |refine cR ic ?_ |refine cR nc ?_);simp -implicitDefEqProofs (disch:=omega) only[go_sem,AI,d7,b1,b2];(repeat' (refine K _ ?_;clear K kp))) |refine A2 rfl ?_ |refine A1 rfl ?_ |refine A5 ?_));(refine rJ results28 ?_;exact eQ hE)
 have pc:=Tv G s o (by omega);simp only[AI] at pc;have hn7:s.k<7->AH s.tab=0:=fun hk=>cG fun hh=>hn ⟨hk,hh⟩
 by_cases hp:AR s=0
 ·have hP:okP s:=⟨by omega,by omega,hn7,hp⟩
  have tc:=R3 G s trW trT (h hP);simp only[AI] at tc;rw[hp] at pc;obtain⟨t,at'⟩: ∃t,(s.tab.toList==ByteArray.toList ⟨#[]⟩)=t:=⟨_,rfl⟩;obtain⟨c,ac⟩: ∃t,decide ((s.cols.length:Int)>0)=t:=⟨_,rfl⟩;obtain⟨r,ar⟩: ∃t,decide ((s.row.length:Int)>0)=t:=⟨_,rfl⟩;obtain⟨nn,an⟩: ∃t,decide ((s.names.length:Int)>0)=t:=⟨_,rfl⟩;obtain⟨w,aw⟩: ∃t,decide ((s.wh.length:Int)>0)=t:=⟨_,rfl⟩;obtain⟨oo,ao⟩: ∃t,(s.ord.toList==ByteArray.toList ⟨#[]⟩)=t:=⟨_,rfl⟩;obtain⟨se,as'⟩: ∃t,(s.set.toList==ByteArray.toList ⟨#[]⟩)=t:=⟨_,rfl⟩;obtain⟨to,ato⟩: ∃t,decide ((s.to.length:Int)>0)=t:=⟨_,rfl⟩;obtain⟨li,al⟩: ∃t,(s.lim != -1)=t:=⟨_,rfl⟩;have hM:=TV hP (BQ s trW trT).length ⟨at',ac,ar,an,aw,ao,as',ato,al⟩;obtain⟨ct,hct⟩: ∃t,s.count=t:=⟨_,rfl⟩;obtain⟨dn,hdn⟩: ∃t,s.down=t:=⟨_,rfl⟩;rw[hct,hdn] at hM tc pc;rw[hM];clear hM;generalize BQ s trW trT=sm at *
  have d100: ∀b:Bool,decide ((sm.length:Int)>100)=b->(100<sm.length)=(b=true):=by
   intro b hb;rw[<-hb];simp;omega
  obtain⟨lg,hlg⟩: ∃t,decide ((sm.length:Int)>100)=t:=⟨_,rfl⟩;have d100:=d100 _ hlg;simp only[d100];clear d100
  obtain hk |hk |hk |hk |hk |hk |hk |hk |hk:s.k=1\/s.k=2\/s.k=3\/s.k=4\/s.k=5\/s.k=6\/s.k=7\/s.k=8\/s.k=9:=by omega
  all_goals
   have hn0:s.k<7->AH s.tab=0:=hn7;simp only[hk] at hn0 ic pc tc ⊢
   try rw[hn0 (by decide)] at nc
   clear hn0 hn7 hn hp hP h h19 o
   cases ct<;>cases dn
   all_goals
    refine cJ func28 fun E hG hE=>?_;subst hG;simp only[AX];(repeat' (first |refine A0 ?_ |refine A3 ?_ |((first |refine sR (fun K kp=>?_) |refine cR ic ?_ |refine cR nc ?_ |refine cR pc ?_ |refine cR tc ?_ |refine iG ?_);simp -implicitDefEqProofs (disch:=omega) only[go_sem,AI,hk,at',ac,ar,an,aw,ao,as',ato,al,hct,hdn,hlg];(repeat' (refine K _ ?_;clear K kp))) |((refine aG (fun h=>?_) (fun h=>?_))<;>simp only[h]) |refine A2 rfl ?_ |refine A1 rfl ?_ |((refine A6 rfl (fun h=>?_) (fun h=>?_)<;>try simp only[Af] at h)<;>(try (exfalso;omega))) |refine A5 ?_))
    all_goals first |(exfalso;omega) |(
     refine rJ results28 ?_;refine(AE hE (by simp) ?_).s;clear ic nc pc tc hE at' ac ar an aw ao as' ato al hct hdn hlg hk
     simp_all [A8,ren,renL,MT])
 ·have hM: ∀n,P9 s n=AR s:=fun n=>by rw[P9,if_neg h19,BT hn hp,if_pos hp]
  rw[hM]
  have b1:(AR s==0)=false:=by simpa using hp
  have b2:(AR s !=0)=true:=by simpa using hp
  by_cases h7:s.k<7
  ·have d7:decide (s.k<7)=true:=aE h7
   rw[hn7 h7] at nc;refine cJ func28 fun E hG hE=>?_;subst hG;simp only[AX];(repeat' (first |refine A0 ?_ |refine A3 ?_ |((first |refine sR (fun K kp=>?_) |refine cR ic ?_ |refine cR nc ?_ |refine cR pc ?_);simp -implicitDefEqProofs (disch:=omega) only[go_sem,AI,d7,b1,b2];(repeat' (refine K _ ?_;clear K kp))) |refine A2 rfl ?_ |refine A1 rfl ?_ |refine A5 ?_));(refine rJ results28 ?_;exact eQ hE)
  ·have d7:decide (s.k<7)=false:=aC h7
   refine cJ func28 fun E hG hE=>?_;subst hG;simp only[AX];(repeat' (first |refine A0 ?_ |refine A3 ?_ |((first |refine sR (fun K kp=>?_) |refine cR ic ?_ |refine cR pc ?_);simp -implicitDefEqProofs (disch:=omega) only[go_sem,AI,d7,b1,b2];(repeat' (refine K _ ?_;clear K kp))) |refine A2 rfl ?_ |refine A1 rfl ?_ |refine A5 ?_));(refine rJ results28 ?_;exact eQ hE)
open Go.Proofs.YtmohnlbeiaifhaaGreatDoor (OP AH Bc AZ str AW)
def II (nm:ByteArray)(md:Int)(lo hi:Ky):List Et->List NE
 | []=>[⟨Ko nm,md⟩]
 |e::r=>if hi.length=0\/BI hi e.1=false then (if BI e.1 lo=false then ⟨EW nm e.1,md⟩::II nm md lo hi r else II nm md lo hi r) else [⟨EW nm e.1,md⟩]
theorem Jg (nm:ByteArray)(md:Int)(lo hi:Ky): ∀ {l:List Et},Qo l->II nm md lo hi l=Fc nm md l lo hi
 | [],_=>by
   unfold II Fc Er Ku
   by_cases h:hi.length=0
   ·rw[if_pos h];rfl
   ·rw[if_neg h];rfl
 |e::r,hs=>by
  have hs':=List.pairwise_cons.1 hs;have ih:=Jg nm md lo hi hs'.2;unfold II
  by_cases h:hi.length=0\/BI hi e.1=false
  ·rw[if_pos h,ih]
   have hb:(decide (hi.length=0)|| !BI hi e.1)=true:=by rcases h with h |h<;>simp[h]
   have hup:(if hi.length=0 then Ko nm else CH nm (Ku hi (e::r)))=(if hi.length=0 then Ko nm else CH nm (Ku hi r)):=by
    by_cases h0:hi.length=0
    ·rw[if_pos h0,if_pos h0]
    ·rw[if_neg h0,if_neg h0]
     have h1:BI hi e.1=false:=h.resolve_left h0;rw[Ku,fO,h1];rfl
   unfold Fc;rw[hup];unfold Er;rw[List.filter_cons,hb,Bool.and_true]
   cases h2:BI e.1 lo<;>simp
  ·rw[if_neg h]
   have h0:hi.length≠0:=fun h'=>h (.inl h')
   have h1:BI hi e.1=true:=by cases hx:BI hi e.1;exact absurd (.inr hx) h;rfl
   have hsc:Er (e::r) lo hi=[]:=by
    unfold Er;rw[gF];intro x hx
    have:BI hi x.1=true:=by
     rcases bA.1 hx with rfl |hx
     ·exact h1
     ·exact C2 h1 (hs'.1 x hx)
    simp[h0,this]
   unfold Fc;rw[hsc,if_neg h0,Ku,fO,h1]
   rfl
section
variable {G:GL} {b:List TB} {s:ST} {e:Int} {trW trT:RT OP} (o:NeedOK b s e trW trT)
 (pc:Con prog G 28 [.agg (AI s)] [] 0 (Is (.r (.int .i64 e)) [] 0) No)
include o pc
theorem Ts (h0:B1 b≠0):Con prog G 7 [.agg [.ro true 5 (b.map Ad)],.agg (AI s)] [] 0 (Is (B6 b s e trW trT) [] 0) No:=by
 have bc:=BA G b o.ob
 have d0:(B1 b==0)=false:=by simpa using h0
 have d1:(B1 b !=0)=true:=by simpa using h0
 rw[B6,if_pos h0];simp only[AI] at pc;refine cJ func7 fun E hG hE=>?_;subst hG;simp only[AX];(repeat' (first |refine A0 ?_ |refine A3 ?_ |((first |refine sR (fun K kp=>?_) |refine cR bc ?_);simp -implicitDefEqProofs (disch:=omega) only[go_sem,d0,d1,AI];(repeat' (refine K _ ?_;clear K kp))) |refine A2 rfl ?_ |refine A1 rfl ?_ |refine A5 ?_));(refine rJ results7 ?_;exact eQ hE)
theorem To (h0:B1 b=0)(h1:e≠0):Con prog G 7 [.agg [.ro true 5 (b.map Ad)],.agg (AI s)] [] 0 (Is (B6 b s e trW trT) [] 0) No:=by
 have bc:=BA G b o.ob
 have d0:(B1 b==0)=true:=by simpa using h0
 have d1:(e==0)=false:=by simpa using h1
 have d2:(e !=0)=true:=by simpa using h1
 rw[B6,if_neg (by omega),if_pos h1];simp only[AI] at pc;refine cJ func7 fun E hG hE=>?_;subst hG;simp only[AX];(repeat' (first |refine A0 ?_ |refine A3 ?_ |((first |refine sR (fun K kp=>?_) |refine cR bc ?_ |refine cR pc ?_);simp -implicitDefEqProofs (disch:=omega) only[go_sem,d0,d1,d2,AI];(repeat' (refine K _ ?_;clear K kp))) |refine A2 rfl ?_ |refine A1 rfl ?_ |refine A5 ?_));(refine rJ results7 ?_;exact eQ hE)
theorem Tr (h0:B1 b=0)(h1:e=0)(h2:7≤s.k):Con prog G 7 [.agg [.ro true 5 (b.map Ad)],.agg (AI s)] [] 0 (Is (B6 b s e trW trT) [] 0) No:=by
 have bc:=BA G b o.ob
 have d0:(B1 b==0)=true:=by simpa using h0
 have d1:(e==0)=true:=by simpa using h1
 have d2:decide (s.k≥7)=true:=aE (by omega);rw[B6,if_neg (by omega),if_neg (by omega),if_pos h2];simp only[AI] at pc;refine cJ func7 fun E hG hE=>?_;subst hG;simp only[AX];(repeat' (first |refine A0 ?_ |((first |refine sR (fun K kp=>?_) |refine cR bc ?_ |refine cR pc ?_);simp -implicitDefEqProofs (disch:=omega) only[go_sem,d0,d1,d2,AI];(repeat' (refine K _ ?_;clear K kp))) |refine A2 rfl ?_ |refine A5 ?_));(refine rJ results7 ?_;exact eQ hE)
theorem RJ (h0:B1 b=0)(h1:e=0)(hk:s.k=1):Con prog G 7 [.agg [.ro true 5 (b.map Ad)],.agg (AI s)] [] 0 (Is (B6 b s e trW trT) [] 0) No:=by
 have bc:=BA G b o.ob
 have d0:(B1 b==0)=true:=by simpa using h0
 have d1:(e==0)=true:=by simpa using h1
 have d1b:(e !=0)=false:=by simpa using h1
 have d2:decide (s.k≥7)=false:=aC (by omega)
 have d3:(s.k==1)=true:=by rw[hk];rfl
 have d4:(s.k==2)=false:=by rw[hk];rfl
 rw[B6,if_neg (by omega),if_neg (by omega),if_neg (by omega),if_pos (by omega)];simp only[AI] at pc;refine cJ func7 fun E hG hE=>?_;subst hG;simp only[AX];(repeat' (first |refine A0 ?_ |refine A3 ?_ |((first |refine sR (fun K kp=>?_) |refine cR bc ?_ |refine cR pc ?_);simp -implicitDefEqProofs (disch:=omega) only[go_sem,d0,d1,d1b,d2,d3,d4,AI];(repeat' (refine K _ ?_;clear K kp))) |refine A2 rfl ?_ |refine A1 rfl ?_ |refine A5 ?_));(refine rJ results7 ?_;refine AG (by simp only[A8];simp -implicitDefEqProofs (disch:=omega) only[go_sem,DR];rfl) ?_;refine(AE hE (by simp) ?_).s;simp[A8,ren,renL,DR])
theorem RI (h0:B1 b=0)(h1:e=0)(hk:s.k=2):Con prog G 7 [.agg [.ro true 5 (b.map Ad)],.agg (AI s)] [] 0 (Is (B6 b s e trW trT) [] 0) No:=by
 have bc:=BA G b o.ob
 have d0:(B1 b==0)=true:=by simpa using h0
 have d1:(e==0)=true:=by simpa using h1
 have d1b:(e !=0)=false:=by simpa using h1
 have d2:decide (s.k≥7)=false:=aC (by omega)
 have d3:(s.k==1)=false:=by rw[hk];rfl
 have d4:(s.k==2)=true:=by rw[hk];rfl
 rw[B6,if_neg (by omega),if_neg (by omega),if_neg (by omega),if_pos (by omega)];simp only[AI] at pc;refine cJ func7 fun E hG hE=>?_;subst hG;simp only[AX];(repeat' (first |refine A0 ?_ |refine A3 ?_ |((first |refine sR (fun K kp=>?_) |refine cR bc ?_ |refine cR pc ?_);simp -implicitDefEqProofs (disch:=omega) only[go_sem,d0,d1,d1b,d2,d3,d4,AI];(repeat' (refine K _ ?_;clear K kp))) |refine A2 rfl ?_ |refine A1 rfl ?_ |refine A5 ?_));(refine rJ results7 ?_;refine AG (by simp only[A8];simp -implicitDefEqProofs (disch:=omega) only[go_sem,DR];rfl) ?_;refine(AE hE (by simp) ?_).s;simp[A8,ren,renL,DR])
theorem Tp (h0:B1 b=0)(h1:e=0)(h2: ¬7≤s.k)(h3: ¬s.k≤2)(hi:B9 (Bq s.tab) b 0<0):Con prog G 7 [.agg [.ro true 5 (b.map Ad)],.agg (AI s)] [] 0 (Is (B6 b s e trW trT) [] 0) No:=by
 have bc:=BA G b o.ob
 have d0:(B1 b==0)=true:=by simpa using h0
 have d1:(e==0)=true:=by simpa using h1
 have d1b:(e !=0)=false:=by simpa using h1
 have d2:decide (s.k≥7)=false:=aC (by omega)
 have d3:(s.k==1)=false:=by simp only[aT,ne_eq];omega
 have d4:(s.k==2)=false:=by simp only[aT,ne_eq];omega
 have ic:=Co G true b s.tab o.ob.1;have d5:decide (B9 (Bq s.tab) b 0<0)=true:=aE hi;rw[B6,if_neg (by omega),if_neg (by omega),if_neg h2,if_neg h3,Nk,if_pos hi];simp only[AI] at pc;refine cJ func7 fun E hG hE=>?_;subst hG;simp only[AX];(repeat' (first |refine A0 ?_ |refine A3 ?_ |((first |refine sR (fun K kp=>?_) |refine cR bc ?_ |refine cR pc ?_ |refine cR ic ?_);simp -implicitDefEqProofs (disch:=omega) only[go_sem,d0,d1,d1b,d2,d3,d4,d5,AI];(repeat' (refine K _ ?_;clear K kp))) |refine A2 rfl ?_ |refine A1 rfl ?_ |refine A5 ?_));(refine rJ results7 ?_;refine AG (by simp only[A8];simp -implicitDefEqProofs (disch:=omega) only[go_sem,DR];rfl) ?_;refine(AE hE (by simp) ?_).s;simp[A8,ren,renL,DR])
variable (h0:B1 b=0) (h1:e=0) (h2: ¬7≤s.k) (h3: ¬s.k≤2) {j:Nat} {t:TB} (f:FoundT b s j t)
include h0 h1 h2 h3 f
theorem Tq (hL:Bl t s trW trT=true):Con prog G 7 [.agg [.ro true 5 (b.map Ad)],.agg (AI s)] [] 0 (Is (B6 b s e trW trT) [] 0) No:=by
 have bc:=BA G b o.ob
 have d0:(B1 b==0)=true:=by simpa using h0
 have d1:(e==0)=true:=by simpa using h1
 have d1b:(e !=0)=false:=by simpa using h1
 have d2:decide (s.k≥7)=false:=aC (by omega)
 have d3:(s.k==1)=false:=by simp only[aT,ne_eq];omega
 have d4:(s.k==2)=false:=by simp only[aT,ne_eq];omega
 have ic:=Co G true b s.tab o.ob.1;have d5:decide ((j:Int)<0)=false:=aC (by omega);have hlt:=(aA.1 f.x).1;have zi:((j:Int)<(b.length:Int))=True:=aK (by omega);have hx:=f.x;have hm:=aB f.x;have fc:=ED G (o.lost hm);rw[f.i] at ic;rw[hL] at fc;rw[B6,if_neg (by omega),if_neg (by omega),if_neg h2,if_neg h3,Bk f,if_pos hL];simp only[AI,Ad] at pc fc;refine cJ func7 fun E hG hE=>?_;subst hG;simp only[AX];(repeat' (first |refine A0 ?_ |refine A3 ?_ |((first |refine sR (fun K kp=>?_) |refine cR bc ?_ |refine cR pc ?_ |refine cR ic ?_ |refine cR fc ?_);simp -implicitDefEqProofs (disch:=omega) only[go_sem,d0,d1,d1b,d2,d3,d4,d5,zi,hx,AI,Ad];(repeat' (refine K _ ?_;clear K kp))) |refine A2 rfl ?_ |refine A1 rfl ?_ |refine A5 ?_));(refine rJ results7 ?_;refine AG (by simp only[A8];simp -implicitDefEqProofs (disch:=omega) only[go_sem,DR];rfl) ?_;refine(AE hE (by simp) ?_).s;simp[A8,ren,renL,DR])
theorem VN (hL:Bl t s trW trT=false)(k3:s.k=3):Con prog G 7 [.agg [.ro true 5 (b.map Ad)],.agg (AI s)] [] 0 (Is (B6 b s e trW trT) [] 0) No:=by
 have bc:=BA G b o.ob
 have d0:(B1 b==0)=true:=by simpa using h0
 have d1:(e==0)=true:=by simpa using h1
 have d1b:(e !=0)=false:=by simpa using h1
 have d2:decide (s.k≥7)=false:=aC (by omega)
 have d3:(s.k==1)=false:=by simp only[aT,ne_eq];omega
 have d4:(s.k==2)=false:=by simp only[aT,ne_eq];omega
 have ic:=Co G true b s.tab o.ob.1;have d5:decide ((j:Int)<0)=false:=aC (by omega);have hlt:=(aA.1 f.x).1;have zi:((j:Int)<(b.length:Int))=True:=aK (by omega);have hx:=f.x;have hm:=aB f.x;have fc:=ED G (o.lost hm);rw[f.i] at ic;rw[hL] at fc;have ot:=o.ob.2 t hm;have hn:t.nm.size≤1048576:=DJ f.ok.nm;have zw:=Ws hn 116;obtain⟨r,d,hr,hT⟩:=Eo (GO f.ok.ck)
 have hkk: ∀e ∈ AT t.ps t.root,e.1.length≤1048576:=by rw[hr,BJ hT];exact fun e he=>Hg ot.ps he
 rw[B6,if_neg (by omega),if_neg (by omega),if_neg h2,if_neg h3,Bk f,if_neg (by rw[hL];decide),Hz,if_pos k3];obtain⟨v,rr,hrow,he,hkb⟩:=LA (Np k3 hL)
 have hk100:(Cg s.row).length≤100:=by
  simp only[GB,aJ,aP] at hkb;omega
 have kc:=QA G true s.row (Cg s.row) o.os.lr (by rw[hrow];simp) o.gr he;have uc:=Qu G true true t.ps t.root (Cg s.row) ot.ps f.ok.ck;have k1:=Cy G false t.nm [(Cg s.row,0)] hn (fun e he=>by rw[aW] at he;subst he;exact bL hk100 (by decide));have k2:=Cy G true t.nm (Ku (Cg s.row) (AT t.ps t.root)) hn (fun e he=>hkk e ((List.dropWhile_suffix _).subset he));have hth:CH t.nm [(Cg s.row,0)]=EW t.nm (Cg s.row):=rfl;rw[hth] at k1
 have d8:(s.k==3)=true:=by rw[k3];rfl
 generalize CH t.nm (Ku (Cg s.row) (AT t.ps t.root))=th at *;generalize EW t.nm (Cg s.row)=th1 at *;generalize Ku (Cg s.row) (AT t.ps t.root)=up at *;generalize Cg s.row=ky at *;simp only[AI,Ad,Cf,List.map_cons,List.map_nil] at pc fc k1;refine cJ func7 fun E hG hE=>?_;subst hG;simp only[AX];(repeat' (first |refine A0 ?_ |refine A3 ?_ |((first |refine sR (fun K kp=>?_) |refine sD (id:=21) mixed 16 [0,1,2,3,4,5,6,7,10,11,12,8,9,13,14,15] (fun K kp=>?_) |refine cR bc ?_ |refine cR pc ?_ |refine cR ic ?_ |refine cR fc ?_ |refine cR kc ?_ |refine cR uc ?_ |refine cD k1 ?_ |refine cD k2 ?_);simp -implicitDefEqProofs (disch:=omega) only[go_sem,d0,d1,d1b,d2,d3,d4,d5,d8,zi,zw,hx,AI,Ad];(repeat' (refine K _ ?_;clear K kp))) |refine A2 rfl ?_ |refine A1 rfl ?_ |refine A5 ?_));(refine rJ results7 ?_;refine AG (by simp only[A8];simp -implicitDefEqProofs (disch:=omega) only[go_sem,DR,An];rfl) ?_;refine(AE hE (by simp) ?_).s;simp[A8,ren,renL,DR,An])
theorem VO (hL:Bl t s trW trT=false)(k3:s.k≠3)(ha:((Ga (AN t.cols s.wh trW)).length=0/\(GR (AN t.cols s.wh trW)).length=0)\/(s.k=5/\Ab t.cols s.set=0)):Con prog G 7 [.agg [.ro true 5 (b.map Ad)],.agg (AI s)] [] 0 (Is (B6 b s e trW trT) [] 0) No:=by
 have bc:=BA G b o.ob
 have d0:(B1 b==0)=true:=by simpa using h0
 have d1:(e==0)=true:=by simpa using h1
 have d1b:(e !=0)=false:=by simpa using h1
 have d2:decide (s.k≥7)=false:=aC (by omega)
 have d3:(s.k==1)=false:=by simp only[aT,ne_eq];omega
 have d4:(s.k==2)=false:=by simp only[aT,ne_eq];omega
 have ic:=Co G true b s.tab o.ob.1;have d5:decide ((j:Int)<0)=false:=aC (by omega);have hlt:=(aA.1 f.x).1;have zi:((j:Int)<(b.length:Int))=True:=aK (by omega);have hx:=f.x;have hm:=aB f.x;have fc:=ED G (o.lost hm);rw[f.i] at ic;rw[hL] at fc;have ot:=o.ob.2 t hm;have hn:t.nm.size≤1048576:=DJ f.ok.nm;have zw:=Ws hn 116;obtain⟨r,d,hr,hT⟩:=Eo (GO f.ok.ck)
 have hkk: ∀e ∈ AT t.ps t.root,e.1.length≤1048576:=by rw[hr,BJ hT];exact fun e he=>Hg ot.ps he
 rw[B6,if_neg (by omega),if_neg (by omega),if_neg h2,if_neg h3,Bk f,if_neg (by rw[hL];decide),Hz,if_neg k3,if_pos ha]
 have d8:(s.k==3)=false:=by simpa using k3
 obtain⟨c,cr,hc⟩:=Fu f.ok.cl
 have hc0:t.cols[0]?=some c:=by rw[hc];rfl
 have hcl:t.cols.length=cr.length+1:=by rw[hc];rfl
 have zc:((0:Int)<(t.cols.length:Int))=True:=aK (by omega)
 have hset:(s.set.toList==c.nm.toList)=KS s.set c:=by unfold KS;exact BEq.comm
 have hfz:Ab t.cols s.set=0↔KS s.set c=true:=by rw[hc];exact Js
 have dc:=Ef G t.cols s.wh trW ot.cl o.os.lw ot.cs o.os.wh o.g o.w;rw[Cr] at dc;generalize Ga (AN t.cols s.wh trW)=lo at *;generalize GR (AN t.cols s.wh trW)=hi at *;have ln1:=Cb lo;have ln2:=Cb hi;unfold Hn at ln1 ln2;simp only[AI,Ad] at pc fc
 by_cases k5:s.k=5/\Ab t.cols s.set=0
 ·have d6:(s.k==5)=true:=by rw[k5.1];rfl
  have d7:(s.k==4)=false:=by rw[k5.1];rfl
  have d9:(s.set.toList==c.nm.toList)=true:=by rw[hset];exact hfz.1 k5.2
  rw[if_neg (by omega)];cases hz1:((lo.length:Int)==0)
  all_goals (
   cases hz2:((hi.length:Int)==0)
   all_goals (
    refine cJ func7 fun E hG hE=>?_;subst hG;simp only[AX];(repeat' (first |refine A0 ?_ |refine A3 ?_ |((first |refine sR (fun K kp=>?_) |refine sI (id:=28) mixed 23 (fun K kp=>?_) |refine cR bc ?_ |refine cR pc ?_ |refine cR ic ?_ |refine cR fc ?_ |refine cR dc ?_);simp -implicitDefEqProofs (disch:=omega) only[go_sem,d0,d1,d1b,d2,d3,d4,d5,d6,d7,d8,d9,hz1,hz2,zi,zw,zc,hx,hc0,ln1,ln2,AI,Ad,eC];(repeat' (refine K _ ?_;clear K kp))) |refine A2 rfl ?_ |refine A1 rfl ?_ |refine A5 ?_))
    (refine rJ results7 ?_;refine AG (by simp only[A8];simp -implicitDefEqProofs (disch:=omega) only[go_sem,DR,An];rfl) ?_;refine(AE hE (by simp) ?_).s;simp[A8,ren,renL,DR,An])))
 ·obtain⟨e1,e2⟩:=ha.resolve_right k5
  have hz1:((lo.length:Int)==0)=true:=by rw[e1];rfl
  have hz2:((hi.length:Int)==0)=true:=by rw[e2];rfl
  have d6:=hz1;have d9:=hz1
  by_cases k4:s.k=4
  ·have d7:(s.k==4)=true:=by rw[k4];rfl
   rw[if_pos k4];refine cJ func7 fun E hG hE=>?_;subst hG;simp only[AX];(repeat' (first |refine A0 ?_ |refine A3 ?_ |((first |refine sR (fun K kp=>?_) |refine sI (id:=28) mixed 23 (fun K kp=>?_) |refine cR bc ?_ |refine cR pc ?_ |refine cR ic ?_ |refine cR fc ?_ |refine cR dc ?_);simp -implicitDefEqProofs (disch:=omega) only[go_sem,d0,d1,d1b,d2,d3,d4,d5,d6,d7,d8,d9,hz1,hz2,zi,zw,zc,hx,hc0,ln1,ln2,AI,Ad,eC];(repeat' (refine K _ ?_;clear K kp))) |refine A2 rfl ?_ |refine A1 rfl ?_ |refine A5 ?_));(refine rJ results7 ?_;refine AG (by simp only[A8];simp -implicitDefEqProofs (disch:=omega) only[go_sem,DR,An];rfl) ?_;refine(AE hE (by simp) ?_).s;simp[A8,ren,renL,DR,An])
  ·have d7:(s.k==4)=false:=by simpa using k4
   rw[if_neg k4];refine cJ func7 fun E hG hE=>?_;subst hG;simp only[AX];(repeat' (first |refine A0 ?_ |refine A3 ?_ |((first |refine sR (fun K kp=>?_) |refine sI (id:=28) mixed 23 (fun K kp=>?_) |refine cR bc ?_ |refine cR pc ?_ |refine cR ic ?_ |refine cR fc ?_ |refine cR dc ?_);simp -implicitDefEqProofs (disch:=omega) only[go_sem,d0,d1,d1b,d2,d3,d4,d5,d6,d7,d8,d9,hz1,hz2,zi,zw,zc,hx,hc0,ln1,ln2,AI,Ad,eC];(repeat' (refine K _ ?_;clear K kp))) |refine A2 rfl ?_ |refine A1 rfl ?_ |refine A5 ?_));(refine rJ results7 ?_;refine AG (by simp only[A8];simp -implicitDefEqProofs (disch:=omega) only[go_sem,DR,An];rfl) ?_;refine(AE hE (by simp) ?_).s;simp[A8,ren,renL,DR,An])
end
section
variable {G:GL} {b:List TB} {s:ST} {e:Int} {trW trT:RT OP} (o:NeedOK b s e trW trT)
 (pc:Con prog G 28 [.agg (AI s)] [] 0 (Is (.r (.int .i64 e)) [] 0) No)
include o pc
variable (h0:B1 b=0) (h1:e=0) (h2: ¬7≤s.k) (h3: ¬s.k≤2) {j:Nat} {t:TB} (f:FoundT b s j t)
include h0 h1 h2 h3 f
theorem RH (hL:Bl t s trW trT=false)(k3:s.k≠3)(k4:s.k=4)(ha: ¬(((Ga (AN t.cols s.wh trW)).length=0/\(GR (AN t.cols s.wh trW)).length=0)\/(s.k=5/\Ab t.cols s.set=0))):Con prog G 7 [.agg [.ro true 5 (b.map Ad)],.agg (AI s)] [] 0 (Is (B6 b s e trW trT) [] 0) No:=by
 have bc:=BA G b o.ob
 have d0:(B1 b==0)=true:=by simpa using h0
 have d1:(e==0)=true:=by simpa using h1
 have d1b:(e !=0)=false:=by simpa using h1
 have d2:decide (s.k≥7)=false:=aC (by omega)
 have d3:(s.k==1)=false:=by simp only[aT,ne_eq];omega
 have d4:(s.k==2)=false:=by simp only[aT,ne_eq];omega
 have ic:=Co G true b s.tab o.ob.1;have d5:decide ((j:Int)<0)=false:=aC (by omega);have hlt:=(aA.1 f.x).1;have zi:((j:Int)<(b.length:Int))=True:=aK (by omega);have hx:=f.x;have hm:=aB f.x;have fc:=ED G (o.lost hm);rw[f.i] at ic;rw[hL] at fc;have ot:=o.ob.2 t hm;have hn:t.nm.size≤1048576:=DJ f.ok.nm;have zw:=Ws hn 116;obtain⟨r,d,hr,hT⟩:=Eo (GO f.ok.ck)
 have hkk: ∀e ∈ AT t.ps t.root,e.1.length≤1048576:=by rw[hr,BJ hT];exact fun e he=>Hg ot.ps he
 rw[B6,if_neg (by omega),if_neg (by omega),if_neg h2,if_neg h3,Bk f,if_neg (by rw[hL];decide),Hz,if_neg k3,if_neg ha,if_pos k4,if_pos k4]
 have d8:(s.k==3)=false:=by simpa using k3
 obtain⟨c,cr,hc⟩:=Fu f.ok.cl
 have hc0:t.cols[0]?=some c:=by rw[hc];rfl
 have hcl:t.cols.length=cr.length+1:=by rw[hc];rfl
 have zc:((0:Int)<(t.cols.length:Int))=True:=aK (by omega)
 have hset:(s.set.toList==c.nm.toList)=KS s.set c:=by unfold KS;exact BEq.comm
 have hfz:Ab t.cols s.set=0↔KS s.set c=true:=by rw[hc];exact Js
 have dc:=Ef G t.cols s.wh trW ot.cl o.os.lw ot.cs o.os.wh o.g o.w;rw[Cr] at dc;generalize Ga (AN t.cols s.wh trW)=lo at *;generalize GR (AN t.cols s.wh trW)=hi at *;have ln1:=Cb lo;have ln2:=Cb hi;unfold Hn at ln1 ln2;simp only[AI,Ad] at pc fc;have ec:=E5 G true hT ot.ps;rw[<-BJ hT,<-hr] at ec;have hen:(AT t.ps t.root).length≤100:=bL f.ok.few (by decide)
 have hsr:Qo (AT t.ps t.root):=by rw[hr,BJ hT];exact H8 hT.ok d r [] [] hT.good
 rw[<-Jg t.nm 3 lo hi hsr];generalize AT t.ps t.root=en at *;obtain⟨R,hR⟩: ∃R,[NE.mk ⟨#[]⟩ 1,NE.mk (An t.nm) 1]++II t.nm 3 lo hi en=R:=⟨_,rfl⟩;rw[show(NE.mk ⟨#[]⟩ 1::NE.mk (An t.nm) 1::II t.nm 3 lo hi en)=R from hR]
 have d7:(s.k==4)=true:=by rw[k4];rfl
 have d6:(s.k==5)=false:=by rw[k4];rfl
 have d9:=d6
 have h7:(((lo.length:Int)==0)=false/\((lo.length:Int)==0)=false)\/(((lo.length:Int)==0)=true/\((hi.length:Int)==0)=false):=by
  by_cases h:lo.length=0
  ·right
   refine⟨by rw[h];rfl,?_⟩;simp only[aT,ne_eq];intro h';exact ha (.inl ⟨h,by omega⟩)
  ·left
   have:((lo.length:Int)==0)=false:=by simp only[aT,ne_eq];omega
   exact⟨this,this⟩
 rcases h7 with ⟨hz1,hz2⟩ |⟨hz1,hz2⟩
 all_goals (
  refine cJ func7 fun E hG hE=>?_;subst hG;simp only[AX];(repeat' (first |refine A0 ?_ |refine A4 ?_ |refine A3 ?_ |((first |refine sR (fun K kp=>?_) |refine sI (id:=28) mixed 23 (fun K kp=>?_) |refine cR bc ?_ |refine cR pc ?_ |refine cR ic ?_ |refine cR fc ?_ |refine cR dc ?_ |refine cR ec ?_);simp -implicitDefEqProofs (disch:=omega) only[go_sem,d0,d1,d1b,d2,d3,d4,d5,d6,d7,d8,d9,hz1,hz2,zi,zw,zc,hx,hc0,ln1,ln2,AI,Ad,eC];(repeat' (refine K _ ?_;clear K kp))) |refine A2 rfl ?_ |refine A1 rfl ?_));refine AB (fun z:Nat×List NE=>⟨[(18,.ro true 2 ((en.drop z.1).map Cf)),(7,.s 1 0 z.2.length),(9,.p 0 0 0),(16,EK hi),(15,EK lo),(14,.r (.int .i64 3))],[(0,.box 45 (Ad t)),(1,Gu z.2)],2⟩) (fun z=>z.1≤en.length/\z.2.length≤z.1+2/\z.2++II t.nm 3 lo hi (en.drop z.1)=R) (fun z=>en.length - z.1) (0,[NE.mk ⟨#[]⟩ 1,NE.mk (An t.nm) 1]) ?_ ?_ ?_
  ·exact⟨aU _,by simp,hR⟩
  ·unfold Gu
   (refine AJ hE [3,5] rfl ?_ ?_<;>simp[Ai,AY,lk,ren,renL,AA,AU,Ad,DR,An]<;>(try omega))
  rintro⟨i,q⟩ ⟨hi1,hq,hq2⟩;dsimp only at hi1 hq hq2 ⊢;unfold Gu
  by_cases hlt2:i<en.length
  ·obtain⟨x,hx2⟩: ∃x,en[i]?=some x:=⟨en[i],by simp[hlt2]⟩
   have hdr:=Am hx2;rw[hdr,II] at hq2;have kt:=Cy E.G true t.nm (x::en.drop (i+1)) hn (fun e he=>hkk e (eJ (by rw[hdr];exact he)));have kb:=(Ar E.G true true hi x.1).weak (xs:=[EK hi,.ro true 1 (x.1.map AC)]) (by simp[Gb,wk,JV]);have kl:=(Ar E.G true true x.1 lo).weak (xs:=[.ro true 1 (x.1.map AC),EK lo]) (by simp[Gb,wk,JV]);have z1:((1:Int)≤(((en.drop (i+1)).length+1:Nat):Int))=True:=aK (by omega);have d1:decide ((((en.drop (i+1)).length+1:Nat):Int)>0)=true:=aE (by omega);rw[hdr];have hth:CH t.nm (x::en.drop (i+1))=EW t.nm x.1:=rfl;rw[hth] at kt;generalize EW t.nm x.1=th at *
   by_cases hh:hi.length=0\/BI hi x.1=false
   ·rw[if_pos hh] at hq2
    cases hlb:BI x.1 lo
    ·rw[if_pos hlb] at hq2
     rw[show Op.bytesLess x.1 lo=false from hlb] at kl;obtain⟨v,hv⟩: ∃v,Op.bytesLess hi x.1=v:=⟨_,rfl⟩;rw[hv] at kb
     have hv2:(v=false/\((hi.length:Int)==0)=false)\/((hi.length:Int)==0)=true:=by
      by_cases h0:hi.length=0
      ·right;rw[h0];rfl
      ·left;exact⟨by rw[<-hv];exact hh.resolve_left h0,by simp only[aT,ne_eq];omega⟩
     clear hv
     rcases hv2 with ⟨rfl,hz2⟩ |hz2
     all_goals (
      (repeat' (first |refine A0 ?_ |refine A4 ?_ |refine A3 ?_ |((first |refine sR (fun K kp=>?_) |refine cR kb ?_ |refine cR kl ?_ |refine cR kt ?_);simp -implicitDefEqProofs (disch:=omega) only[go_sem,d1,hz2,z1,ln1,ln2,Ad,Cf];(repeat' (first |(refine K _ ?_;clear K kp) |(with_reducible refine And.intro ?_ ?_) |omega))) |refine A2 rfl ?_));(refine XB ((i+1,q++[NE.mk th 3])) ?_ ?_;rotate_left;(·(refine AJ hE [0,3] rfl ?_ ?_<;>simp[Ai,AY,lk,ren,renL,AA,AU,Ad,DR]<;>(try omega))));refine⟨by omega,by dsimp only;rw[List.length_append];simp only[List.length_cons,List.length_nil];omega,?_⟩;rw[bB]
      exact hq2)
    ·rw[if_neg (by rw[hlb];decide)] at hq2
     rw[show Op.bytesLess x.1 lo=true from hlb] at kl;obtain⟨v,hv⟩: ∃v,Op.bytesLess hi x.1=v:=⟨_,rfl⟩;rw[hv] at kb
     have hv2:(v=false/\((hi.length:Int)==0)=false)\/((hi.length:Int)==0)=true:=by
      by_cases h0:hi.length=0
      ·right;rw[h0];rfl
      ·left;exact⟨by rw[<-hv];exact hh.resolve_left h0,by simp only[aT,ne_eq];omega⟩
     clear hv
     rcases hv2 with ⟨rfl,hz2⟩ |hz2
     all_goals (
      (repeat' (first |refine A0 ?_ |refine A4 ?_ |refine A3 ?_ |((first |refine sR (fun K kp=>?_) |refine cR kb ?_ |refine cR kl ?_);simp -implicitDefEqProofs (disch:=omega) only[go_sem,d1,hz2,z1,ln1,ln2,Ad,Cf];(repeat' (refine K _ ?_;clear K kp))) |refine A2 rfl ?_ |refine A1 rfl ?_));(refine XB ((i+1,q)) ?_ ?_;rotate_left;(·(refine AJ hE [0,1] rfl ?_ ?_<;>simp[Ai,AY,lk,ren,renL,AA,AU,Ad]<;>(try omega))))
      exact⟨by omega,by dsimp only;omega,hq2⟩)
   ·rw[if_neg hh] at hq2
    have hz2:((hi.length:Int)==0)=false:=by simp only[aT,ne_eq];intro h;exact hh (.inl (by omega))
    have hb:Op.bytesLess hi x.1=true:=by cases hx:Op.bytesLess hi x.1;exact absurd (.inr hx) hh;rfl
    rw[hb] at kb;rw[<-hq2];(repeat' (first |refine A0 ?_ |refine A7 ?_ |((first |refine sR (fun K kp=>?_) |refine cR kb ?_ |refine cR kt ?_);simp -implicitDefEqProofs (disch:=omega) only[go_sem,d1,hz2,ln1,ln2,Ad,Cf];(repeat' (first |(refine K _ ?_;clear K kp) |(with_reducible refine And.intro ?_ ?_) |omega))) |refine A1 rfl ?_ |refine A5 ?_));(refine rJ results7 ?_;refine AG (by simp only[A8];simp -implicitDefEqProofs (disch:=omega) only[go_sem,DR];rfl) ?_;refine(AE hE (by simp) ?_).s;simp[A8,ren,renL,DR])
  ·have hi2:i=en.length:=by omega
   subst hi2;rw[cS,II] at hq2;rw[cS,<-hq2];have kt:=Cy E.G true t.nm [] hn (fun e he=>by cases he);simp only[CH] at kt;(repeat' (first |refine A0 ?_ |refine A7 ?_ |((first |refine sR (fun K kp=>?_) |refine cR kt ?_);simp -implicitDefEqProofs (disch:=omega) only[go_sem,ln1,ln2,Ad];(repeat' (first |(refine K _ ?_;clear K kp) |(with_reducible refine And.intro ?_ ?_) |omega))) |refine A1 rfl ?_ |refine A5 ?_))
   (refine rJ results7 ?_;refine AG (by simp only[A8];simp -implicitDefEqProofs (disch:=omega) only[go_sem,DR];rfl) ?_;refine(AE hE (by simp) ?_).s;simp[A8,ren,renL,DR]))
theorem RG (hL:Bl t s trW trT=false)(k3:s.k≠3)(k4:s.k≠4)(ha: ¬(((Ga (AN t.cols s.wh trW)).length=0/\(GR (AN t.cols s.wh trW)).length=0)\/(s.k=5/\Ab t.cols s.set=0))):Con prog G 7 [.agg [.ro true 5 (b.map Ad)],.agg (AI s)] [] 0 (Is (B6 b s e trW trT) [] 0) No:=by
 have bc:=BA G b o.ob
 have d0:(B1 b==0)=true:=by simpa using h0
 have d1:(e==0)=true:=by simpa using h1
 have d1b:(e !=0)=false:=by simpa using h1
 have d2:decide (s.k≥7)=false:=aC (by omega)
 have d3:(s.k==1)=false:=by simp only[aT,ne_eq];omega
 have d4:(s.k==2)=false:=by simp only[aT,ne_eq];omega
 have ic:=Co G true b s.tab o.ob.1;have d5:decide ((j:Int)<0)=false:=aC (by omega);have hlt:=(aA.1 f.x).1;have zi:((j:Int)<(b.length:Int))=True:=aK (by omega);have hx:=f.x;have hm:=aB f.x;have fc:=ED G (o.lost hm);rw[f.i] at ic;rw[hL] at fc;have ot:=o.ob.2 t hm;have hn:t.nm.size≤1048576:=DJ f.ok.nm;have zw:=Ws hn 116;obtain⟨r,d,hr,hT⟩:=Eo (GO f.ok.ck)
 have hkk: ∀e ∈ AT t.ps t.root,e.1.length≤1048576:=by rw[hr,BJ hT];exact fun e he=>Hg ot.ps he
 rw[B6,if_neg (by omega),if_neg (by omega),if_neg h2,if_neg h3,Bk f,if_neg (by rw[hL];decide),Hz,if_neg k3,if_neg ha,if_neg k4,if_neg k4]
 have d8:(s.k==3)=false:=by simpa using k3
 obtain⟨c,cr,hc⟩:=Fu f.ok.cl
 have hc0:t.cols[0]?=some c:=by rw[hc];rfl
 have hcl:t.cols.length=cr.length+1:=by rw[hc];rfl
 have zc:((0:Int)<(t.cols.length:Int))=True:=aK (by omega)
 have hset:(s.set.toList==c.nm.toList)=KS s.set c:=by unfold KS;exact BEq.comm
 have hfz:Ab t.cols s.set=0↔KS s.set c=true:=by rw[hc];exact Js
 have dc:=Ef G t.cols s.wh trW ot.cl o.os.lw ot.cs o.os.wh o.g o.w;rw[Cr] at dc;generalize Ga (AN t.cols s.wh trW)=lo at *;generalize GR (AN t.cols s.wh trW)=hi at *;have ln1:=Cb lo;have ln2:=Cb hi;unfold Hn at ln1 ln2;simp only[AI,Ad] at pc fc;have ec:=E5 G true hT ot.ps;rw[<-BJ hT,<-hr] at ec;have hen:(AT t.ps t.root).length≤100:=bL f.ok.few (by decide)
 have hsr:Qo (AT t.ps t.root):=by rw[hr,BJ hT];exact H8 hT.ok d r [] [] hT.good
 rw[<-Jg t.nm 5 lo hi hsr];generalize AT t.ps t.root=en at *;obtain⟨R,hR⟩: ∃R,[NE.mk ⟨#[]⟩ 1,NE.mk (An t.nm) 2]++II t.nm 5 lo hi en=R:=⟨_,rfl⟩;rw[show(NE.mk ⟨#[]⟩ 1::NE.mk (An t.nm) 2::II t.nm 5 lo hi en)=R from hR]
 have d7:(s.k==4)=false:=by simpa using k4
 have h6:((s.k==5)=true/\(s.set.toList==c.nm.toList)=false)\/((s.k==5)=false/\(s.k==5)=false):=by
  by_cases k5:s.k=5
  ·left
   exact⟨by rw[k5];rfl,by rw[hset];cases h:KS s.set c;rfl;exact absurd (.inr ⟨k5,hfz.2 h⟩) ha⟩
  ·right
   have:(s.k==5)=false:=by simpa using k5
   exact⟨this,this⟩
 have h7:(((lo.length:Int)==0)=false/\((lo.length:Int)==0)=false)\/(((lo.length:Int)==0)=true/\((hi.length:Int)==0)=false):=by
  by_cases h:lo.length=0
  ·right
   refine⟨by rw[h];rfl,?_⟩;simp only[aT,ne_eq];intro h';exact ha (.inl ⟨h,by omega⟩)
  ·left
   have:((lo.length:Int)==0)=false:=by simp only[aT,ne_eq];omega
   exact⟨this,this⟩
 rcases h6 with ⟨d6,d9⟩ |⟨d6,d9⟩
 all_goals (
  rcases h7 with ⟨hz1,hz2⟩ |⟨hz1,hz2⟩
  all_goals (
   refine cJ func7 fun E hG hE=>?_;subst hG;simp only[AX];(repeat' (first |refine A0 ?_ |refine A4 ?_ |refine A3 ?_ |((first |refine sR (fun K kp=>?_) |refine sI (id:=28) mixed 23 (fun K kp=>?_) |refine cR bc ?_ |refine cR pc ?_ |refine cR ic ?_ |refine cR fc ?_ |refine cR dc ?_ |refine cR ec ?_);simp -implicitDefEqProofs (disch:=omega) only[go_sem,d0,d1,d1b,d2,d3,d4,d5,d6,d7,d8,d9,hz1,hz2,zi,zw,zc,hx,hc0,ln1,ln2,AI,Ad,eC];(repeat' (refine K _ ?_;clear K kp))) |refine A2 rfl ?_ |refine A1 rfl ?_));refine AB (fun z:Nat×List NE=>⟨[(18,.ro true 2 ((en.drop z.1).map Cf)),(7,.s 1 0 z.2.length),(9,.p 0 0 0),(16,EK hi),(15,EK lo),(14,.r (.int .i64 5))],[(0,.box 45 (Ad t)),(1,Gu z.2)],2⟩) (fun z=>z.1≤en.length/\z.2.length≤z.1+2/\z.2++II t.nm 5 lo hi (en.drop z.1)=R) (fun z=>en.length - z.1) (0,[NE.mk ⟨#[]⟩ 1,NE.mk (An t.nm) 2]) ?_ ?_ ?_
   ·exact⟨aU _,by simp,hR⟩
   ·unfold Gu
    (refine AJ hE [3,5] rfl ?_ ?_<;>simp[Ai,AY,lk,ren,renL,AA,AU,Ad,DR,An]<;>(try omega))
   rintro⟨i,q⟩ ⟨hi1,hq,hq2⟩;dsimp only at hi1 hq hq2 ⊢;unfold Gu
   by_cases hlt2:i<en.length
   ·obtain⟨x,hx2⟩: ∃x,en[i]?=some x:=⟨en[i],by simp[hlt2]⟩
    have hdr:=Am hx2;rw[hdr,II] at hq2;have kt:=Cy E.G true t.nm (x::en.drop (i+1)) hn (fun e he=>hkk e (eJ (by rw[hdr];exact he)));have kb:=(Ar E.G true true hi x.1).weak (xs:=[EK hi,.ro true 1 (x.1.map AC)]) (by simp[Gb,wk,JV]);have kl:=(Ar E.G true true x.1 lo).weak (xs:=[.ro true 1 (x.1.map AC),EK lo]) (by simp[Gb,wk,JV]);have z1:((1:Int)≤(((en.drop (i+1)).length+1:Nat):Int))=True:=aK (by omega);have d1:decide ((((en.drop (i+1)).length+1:Nat):Int)>0)=true:=aE (by omega);rw[hdr];have hth:CH t.nm (x::en.drop (i+1))=EW t.nm x.1:=rfl;rw[hth] at kt;generalize EW t.nm x.1=th at *
    by_cases hh:hi.length=0\/BI hi x.1=false
    ·rw[if_pos hh] at hq2
     cases hlb:BI x.1 lo
     ·rw[if_pos hlb] at hq2
      rw[show Op.bytesLess x.1 lo=false from hlb] at kl;obtain⟨v,hv⟩: ∃v,Op.bytesLess hi x.1=v:=⟨_,rfl⟩;rw[hv] at kb
      have hv2:(v=false/\((hi.length:Int)==0)=false)\/((hi.length:Int)==0)=true:=by
       by_cases h0:hi.length=0
       ·right;rw[h0];rfl
       ·left;exact⟨by rw[<-hv];exact hh.resolve_left h0,by simp only[aT,ne_eq];omega⟩
      clear hv
      rcases hv2 with ⟨rfl,hz2⟩ |hz2
      all_goals (
       (repeat' (first |refine A0 ?_ |refine A4 ?_ |refine A3 ?_ |((first |refine sR (fun K kp=>?_) |refine cR kb ?_ |refine cR kl ?_ |refine cR kt ?_);simp -implicitDefEqProofs (disch:=omega) only[go_sem,d1,hz2,z1,ln1,ln2,Ad,Cf];(repeat' (first |(refine K _ ?_;clear K kp) |(with_reducible refine And.intro ?_ ?_) |omega))) |refine A2 rfl ?_));(refine XB ((i+1,q++[NE.mk th 5])) ?_ ?_;rotate_left;(·(refine AJ hE [0,3] rfl ?_ ?_<;>simp[Ai,AY,lk,ren,renL,AA,AU,Ad,DR]<;>(try omega))));refine⟨by omega,by dsimp only;rw[List.length_append];simp only[List.length_cons,List.length_nil];omega,?_⟩;rw[bB]
       exact hq2)
     ·rw[if_neg (by rw[hlb];decide)] at hq2
      rw[show Op.bytesLess x.1 lo=true from hlb] at kl;obtain⟨v,hv⟩: ∃v,Op.bytesLess hi x.1=v:=⟨_,rfl⟩;rw[hv] at kb
      have hv2:(v=false/\((hi.length:Int)==0)=false)\/((hi.length:Int)==0)=true:=by
       by_cases h0:hi.length=0
       ·right;rw[h0];rfl
       ·left;exact⟨by rw[<-hv];exact hh.resolve_left h0,by simp only[aT,ne_eq];omega⟩
      clear hv
      rcases hv2 with ⟨rfl,hz2⟩ |hz2
      all_goals (
       (repeat' (first |refine A0 ?_ |refine A4 ?_ |refine A3 ?_ |((first |refine sR (fun K kp=>?_) |refine cR kb ?_ |refine cR kl ?_);simp -implicitDefEqProofs (disch:=omega) only[go_sem,d1,hz2,z1,ln1,ln2,Ad,Cf];(repeat' (refine K _ ?_;clear K kp))) |refine A2 rfl ?_ |refine A1 rfl ?_));(refine XB ((i+1,q)) ?_ ?_;rotate_left;(·(refine AJ hE [0,1] rfl ?_ ?_<;>simp[Ai,AY,lk,ren,renL,AA,AU,Ad]<;>(try omega))))
       exact⟨by omega,by dsimp only;omega,hq2⟩)
    ·rw[if_neg hh] at hq2
     have hz2:((hi.length:Int)==0)=false:=by simp only[aT,ne_eq];intro h;exact hh (.inl (by omega))
     have hb:Op.bytesLess hi x.1=true:=by cases hx:Op.bytesLess hi x.1;exact absurd (.inr hx) hh;rfl
     rw[hb] at kb;rw[<-hq2];(repeat' (first |refine A0 ?_ |refine A7 ?_ |((first |refine sR (fun K kp=>?_) |refine cR kb ?_ |refine cR kt ?_);simp -implicitDefEqProofs (disch:=omega) only[go_sem,d1,hz2,ln1,ln2,Ad,Cf];(repeat' (first |(refine K _ ?_;clear K kp) |(with_reducible refine And.intro ?_ ?_) |omega))) |refine A1 rfl ?_ |refine A5 ?_));(refine rJ results7 ?_;refine AG (by simp only[A8];simp -implicitDefEqProofs (disch:=omega) only[go_sem,DR];rfl) ?_;refine(AE hE (by simp) ?_).s;simp[A8,ren,renL,DR])
   ·have hi2:i=en.length:=by omega
    subst hi2;rw[cS,II] at hq2;rw[cS,<-hq2];have kt:=Cy E.G true t.nm [] hn (fun e he=>by cases he);simp only[CH] at kt;(repeat' (first |refine A0 ?_ |refine A7 ?_ |((first |refine sR (fun K kp=>?_) |refine cR kt ?_);simp -implicitDefEqProofs (disch:=omega) only[go_sem,ln1,ln2,Ad];(repeat' (first |(refine K _ ?_;clear K kp) |(with_reducible refine And.intro ?_ ?_) |omega))) |refine A1 rfl ?_ |refine A5 ?_))
    (refine rJ results7 ?_;refine AG (by simp only[A8];simp -implicitDefEqProofs (disch:=omega) only[go_sem,DR];rfl) ?_;refine(AE hE (by simp) ?_).s;simp[A8,ren,renL,DR])))
end
theorem Te (G:GL)(t t':Bool)(l:List CO)(hl:l.length≤1048576):Con prog G 69 [.ro t 2 (l.map eC),.ro t' 2 (l.map eC)] [] 0 (Is (.r (.bool true)) [] 0) No:=by
 refine cJ func69 fun E hG hE=>?_;subst hG;simp only[AX];(repeat' (first |refine A0 ?_ |refine A4 ?_ |refine A3 ?_ |((refine sR (fun K kp=>?_));simp(disch:=omega) only[go_sem,bY];(repeat' (refine K _ ?_;clear K kp))) |refine A1 rfl ?_));refine AB (fun k:Nat=>⟨[(5,.r (.int .i64 k)),(0,.ro t 2 (l.map eC)),(1,.ro t' 2 (l.map eC))],[],0⟩) (fun k=>k≤l.length) (fun k=>l.length - k) 0 ?_ ?_ ?_
 ·simp
 ·(exact iK hE [])
 intro k hk
 by_cases hlt:k<l.length
 ·obtain⟨x,hx⟩: ∃x,l[k]?=some x:=⟨l[k],by simp[hlt]⟩
  have d1:decide ((k:Int)<(l.length:Int))=true:=aE (by omega);(repeat' (first |refine A0 ?_ |refine A4 ?_ |refine A3 ?_ |((first |refine sR (fun K kp=>?_) |refine sI (id:=6) mixed 9 (fun K kp=>?_));simp(disch:=omega) only[go_sem,hx,eC,d1,beq_self_eq_true,Bool.and_self,Bool.and_true,Bool.not_true];(repeat' (refine K _ ?_;clear K kp))) |refine A2 rfl ?_ |refine A1 rfl ?_));(refine BF (k+1) ?_ (iK hE []));omega
 ·have d1:decide ((k:Int)<(l.length:Int))=false:=aC (by omega)
  (repeat' (first |refine A0 ?_ |refine A7 ?_ |((refine sR (fun K kp=>?_));simp(disch:=omega) only[go_sem,d1];(repeat' (refine K _ ?_;clear K kp))) |refine A1 rfl ?_ |refine A5 ?_));(refine rJ results69 ?_;exact eQ hE)
theorem R8 (G:GL)(s:ST)(o:okST s):Con prog G 6 [.agg (AI s)] [] 0 (Is (.agg (AI s)) [] 0) No:=by
 refine cJ func6 fun E hG hE=>?_;subst hG;simp only[AX];have c1:=Uc E.G true s.cols o.lc;have c2:=PI E.G true s.row o.lr;have c3:=Po E.G true s.wh o.lw;have c4:=Po E.G true s.to o.lt;have hn:=o.ln;(repeat' (first |refine A0 ?_ |((first |refine sR (fun K kp=>?_) |refine cR c1 ?_ |refine cR c2 ?_ |refine cR c3 ?_ |refine cR c4 ?_);simp(disch:=omega) only[go_sem,AI];(repeat' (first |(refine K _ ?_;clear K kp) |(with_reducible refine And.intro ?_ ?_) |omega))) |refine A5 ?_));(refine rJ results6 ?_;refine AG (by simp only[A8];simp(disch:=omega) only[go_sem,AI];rfl) ?_;refine(AE hE (by simp) ?_).s;simp[A8,ren,renL,AI])
section
variable {G:GL} (T:Tabs G) (HR:Ch G) {b:List TB} {s:ST} {e:Int} {trW trT:RT OP} (o:NeedOK b s e trW trT)
theorem U1 (pc:Con prog G 12 [.agg (AI s)] [] 0 (Is (.r (.int .i64 e)) [] 0) No)(T:Tabs G)(HR:Ch G)(o:NeedOK b s e trW trT):Con prog G 5 [.agg [.ro true 5 (b.map Ad)],.agg (AI s)] [] 0 (Is (B6 b s e trW trT) [] 0) No:=by
 by_cases h0:B1 b=0
 rotate_left
 ·exact RY T HR o pc h0
 by_cases h1:e=0
 rotate_left
 ·exact RR T HR o pc h0 h1
 by_cases h2:7≤s.k
 ·exact RX T HR o pc h0 h1 h2
 by_cases h3:s.k≤2
 ·exact RV T HR o pc h0 h1 h3
 by_cases hi:B9 (Bq s.tab) b 0<0
 ·exact RU T HR o pc h0 h1 h2 h3 hi
 obtain⟨j,t,f⟩:=ML h0 hi;cases hL:Bl t s trW trT;rotate_left
 ·exact RW T HR o pc h0 h1 h2 h3 f hL
 by_cases k3:s.k=3
 ·exact Tz T HR o pc h0 h1 h2 h3 f hL k3
 by_cases ha:((Ga (AN t.cols s.wh trW)).length=0/\(GR (AN t.cols s.wh trW)).length=0)\/(s.k=5/\Ab t.cols s.set=0)
 ·exact U2 T HR o pc h0 h1 h2 h3 f hL k3 ha
 ·exact RS T HR o pc h0 h1 h2 h3 f hL k3 ha
theorem Pt (pc:Con prog G 28 [.agg (AI s)] [] 0 (Is (.r (.int .i64 e)) [] 0) No)(o:NeedOK b s e trW trT)(hk:e=0->1≤s.k):Con prog G 7 [.agg [.ro true 5 (b.map Ad)],.agg (AI s)] [] 0 (Is (B6 b s e trW trT) [] 0) No:=by
 by_cases h0:B1 b=0
 rotate_left
 ·exact Ts o pc h0
 by_cases h1:e=0
 rotate_left
 ·exact To o pc h0 h1
 by_cases h2:7≤s.k
 ·exact Tr o pc h0 h1 h2
 by_cases h3:s.k≤2
 ·have:=hk h1
  by_cases k1:s.k=1
  ·exact RJ o pc h0 h1 k1
  ·exact RI o pc h0 h1 (by omega)
 by_cases hi:B9 (Bq s.tab) b 0<0
 ·exact Tp o pc h0 h1 h2 h3 hi
 obtain⟨j,t,f⟩:=ML h0 hi;cases hL:Bl t s trW trT;rotate_left
 ·exact Tq o pc h0 h1 h2 h3 f hL
 by_cases k3:s.k=3
 ·exact VN o pc h0 h1 h2 h3 f hL k3
 by_cases ha:((Ga (AN t.cols s.wh trW)).length=0/\(GR (AN t.cols s.wh trW)).length=0)\/(s.k=5/\Ab t.cols s.set=0)
 ·exact VO o pc h0 h1 h2 h3 f hL k3 ha
 by_cases k4:s.k=4
 ·exact RH o pc h0 h1 h2 h3 f hL k3 k4 ha
 ·exact RG o pc h0 h1 h2 h3 f hL k3 k4 ha
end
theorem U3 (b:List TB)(s:ST)(e:Int)(trW trT:RT OP):(∃x:Int,B6 b s e trW trT= .tup [.r (.slice none 0 0),.r (.int .i64 x)])\/ ∃l:List NE,B6 b s e trW trT= .tup [.ro true 2 (l.map DR),.r (.int .i64 0)]/\l.length≤1048576:=by
 unfold B6
 by_cases h0:B1 b=0
 rotate_left
 ·exact .inl ⟨_,by rw[if_pos h0]⟩
 rw[if_neg (by omega)]
 by_cases h1:e=0
 rotate_left
 ·exact .inl ⟨_,by rw[if_pos h1]⟩
 rw[if_neg (by omega)]
 by_cases h2:7≤s.k
 ·exact .inl ⟨_,by rw[if_pos h2]⟩
 rw[if_neg h2]
 by_cases h3:s.k≤2
 ·exact .inr ⟨_,by rw[if_pos h3],by simp⟩
 rw[if_neg h3];refine .inr ⟨_,rfl,?_⟩
 by_cases hi:B9 (Bq s.tab) b 0<0
 ·rw[Nk,if_pos hi];simp
 obtain⟨j,t,f⟩:=ML h0 hi;rw[Bk f];have hen:=f.ok.few;split
 ·simp
 ·unfold Hz
  split
  ·simp
  split
  ·simp
  ·unfold Fc Er
   have:=gK (fun e:Et=> !BI e.1 (Ga (AN t.cols s.wh trW))&&(decide ((GR (AN t.cols s.wh trW)).length=0)|| !BI (GR (AN t.cols s.wh trW)) e.1)) (AT t.ps t.root);simp only[List.length_cons,List.length_append,List.length_map,List.length_nil];omega
theorem ND (G:GL)(b:TB)(ho:okTB b):Con prog G 37 [.agg (Ad b),.agg (Ad b)] [] 0 (Is (.r (.bool true)) [] 0) No:=by
 have cc:=Te G true true b.cols ho.cl;have rc:=OQ G b.rows ho.rl (fun r hr=>(ho.rs r hr).1);have tc:=OO G true true b.ps b.root ho.ps;have zn:(b.nm.toList==b.nm.toList)=true:=beq_self_eq_true _;refine cJ func37 fun E hG hE=>?_;subst hG;simp only[AX];(repeat' (first |refine A0 ?_ |((first |refine sR (fun K kp=>?_) |refine cR cc ?_ |refine cR rc ?_ |refine cR tc ?_);simp -implicitDefEqProofs (disch:=omega) only[go_sem,Ad,zn];(repeat' (refine K _ ?_;clear K kp))) |refine A5 ?_));(refine rJ results37 ?_;exact eQ hE)
theorem NB (G:GL)(l:List TB)(ho:RO l):Con prog G 9 [.agg [.ro true 5 (l.map Ad)],.agg [.ro true 5 (l.map Ad)]] [] 0 (Is (.r (.bool true)) [] 0) No:=by
 have hl:=ho.1;refine cJ func9 fun E hG hE=>?_;subst hG;simp only[AX];(repeat' (first |refine A0 ?_ |refine A4 ?_ |refine A3 ?_ |((refine sR (fun K kp=>?_));simp -implicitDefEqProofs (disch:=omega) only[go_sem,bY];(repeat' (refine K _ ?_;clear K kp))) |refine A1 rfl ?_));refine AB (fun k:Nat=>⟨[(5,.r (.int .i64 k)),(2,.p 0 0 0),(3,.p 1 0 0)],[(0,.box 24 [.ro true 5 (l.map Ad)]),(1,.box 24 [.ro true 5 (l.map Ad)])],2⟩) (fun k=>k≤l.length) (fun k=>l.length - k) 0 ?_ ?_ ?_
 ·simp
 ·(exact iK hE [0,1])
 intro k hk
 by_cases hlt:k<l.length
 ·obtain⟨x,hx⟩: ∃x,l[k]?=some x:=⟨l[k],by simp[hlt]⟩
  have d1:decide ((k:Int)<(l.length:Int))=true:=aE (by omega);have zi:((k:Int)<(l.length:Int))=True:=aK (by omega);have tc:=ND E.G x (ho.2 x (aB hx));simp only[Ad] at tc;(repeat' (first |refine A0 ?_ |refine A4 ?_ |refine A3 ?_ |((first |refine sR (fun K kp=>?_) |refine sI (id:=6) mixed 12 (fun K kp=>?_) |refine cD tc ?_);simp -implicitDefEqProofs (disch:=omega) only[go_sem,hx,Ad,d1,zi,Bool.not_true];(repeat' (refine K _ ?_;clear K kp))) |refine A2 rfl ?_ |refine A1 rfl ?_));(refine BF (k+1) ?_ (iK hE [0,1]));omega
 ·have d1:decide ((k:Int)<(l.length:Int))=false:=aC (by omega)
  (repeat' (first |refine A0 ?_ |refine A7 ?_ |((refine sR (fun K kp=>?_));simp -implicitDefEqProofs (disch:=omega) only[go_sem,d1];(repeat' (refine K _ ?_;clear K kp))) |refine A1 rfl ?_ |refine A5 ?_));(refine rJ results9 ?_;exact eQ hE)
theorem PO (ops:List OP): ∃tr:RT OP,AZ ops=0->tr.wf BN/\tr.flat=ops:=by
 by_cases he:AZ ops=0
 ·obtain⟨_,_,tr,h1,h2⟩:=CU he;exact⟨tr,fun _=>⟨h1,h2⟩⟩
 ·exact⟨.l ⟨0,0,0,⟨#[]⟩,⟨#[]⟩⟩,fun h=>(he h).elim⟩
theorem TM {s:ST}(hb:bdST s): ∃trW trT,okP s->OkSt s trW trT:=by
 by_cases h:okP s
 ·obtain⟨a,b,h⟩:=A0V hb h;exact⟨a,b,fun _=>h⟩
 ·exact⟨.l ⟨0,0,0,⟨#[]⟩,⟨#[]⟩⟩,.l ⟨0,0,0,⟨#[]⟩,⟨#[]⟩⟩,fun h'=>(h h').elim⟩
theorem Og {G:GL}(T:Tabs G)(HR:Ch G)(b:List TB)(s:ST)(ho:RO b)(os:okST s)(hb:bdST s):Con prog G 3 [.agg [.ro true 5 (b.map Ad)],.agg (AI s)] [] 0 (Is (.r (.bool true)) [] 0) No:=by
 obtain⟨tw,tt,htr⟩:=TM hb;obtain⟨trW,hw⟩:=PO s.wh;obtain⟨trT,ht⟩:=PO s.to;have c1:=Lw T s os tw tt htr;have c2:=UR G s os tw tt htr;obtain⟨e,he⟩: ∃e,e=P9 s (BQ s tw tt).length:=⟨_,rfl⟩
 have hk:e=0->1≤s.k:=by
  intro h;rw[he] at h;unfold P9 at h;split at h
  ·cases h
  ·omega
 rw[<-he] at c1 c2;have o:NeedOK b s e trW trT:=⟨ho,os,fun x hx=>⟨(os.wh x hx).1,hb.wh x hx⟩,fun v hv=>⟨os.row v hv,hb.row v hv⟩,hw,ht⟩;have nc:=U1 c1 T HR o;have rc:=Pt c2 o hk;have bc:=P6 G b ho;have sc:=R8 G s os;have sb:=NB G b ho
 rcases U3 b s e trW trT with ⟨x,hx⟩ |⟨l,hx,hl⟩
 ·have sn:=(Hw G true true [] (by simp)).weak (xs:=[.r (.slice none 0 0),.r (.slice none 0 0)]) (by simp[Gb,wk])
  rw[hx] at nc rc;simp only[AI] at nc rc sc;refine cJ func3 fun E hG hE=>?_;subst hG;simp only[AX];(repeat' (first |refine A0 ?_ |((first |refine sR (fun K kp=>?_) |refine sI (id:=2) mixed 9 (fun K kp=>?_) |refine cR bc ?_ |refine cD sc ?_ |refine cD nc ?_ |refine cR rc ?_ |refine cR sn ?_ |refine cR sb ?_);simp -implicitDefEqProofs (disch:=omega) only[go_sem,beq_self_eq_true,AI];(repeat' (refine K _ ?_;clear K kp))) |refine A5 ?_));(refine rJ results3 ?_;exact eQ hE)
 ·have sn:=Hw G true true l hl
  rw[hx] at nc rc;simp only[AI] at nc rc sc;refine cJ func3 fun E hG hE=>?_;subst hG;simp only[AX];(repeat' (first |refine A0 ?_ |((first |refine sR (fun K kp=>?_) |refine sI (id:=2) mixed 9 (fun K kp=>?_) |refine cR bc ?_ |refine cD sc ?_ |refine cD nc ?_ |refine cR rc ?_ |refine cR sn ?_ |refine cR sb ?_);simp -implicitDefEqProofs (disch:=omega) only[go_sem,beq_self_eq_true,AI];(repeat' (refine K _ ?_;clear K kp))) |refine A5 ?_));(refine rJ results3 ?_;exact eQ hE)
end Go.AM
namespace Go.Proofs.YtmohnlbeiaifhaaGreatDoor
open Go.ChangeShapes Go.WideShapes Go.ChangeAt Go.RowKit Go.AM
theorem HF:Tryz.prog.cellsOf 98=3:=by kernel_rfl
theorem Nt {H:Type}{E:TypeId×Value->H}{w:World}{base:Nat}{spare:Nat->Bool}{held:Bool}(fuel:Nat)(cs:List Value)(x:DataW H×List MemPlace)
  (h:DataW.trod E Tryz.prog w base spare held fuel 98 cs=some x): ∃y:V,Reps w (FH w) [] (eV y) cs/\(∀v ∈ cs,v.oneCell'=true)/\(FG y.s/\Oh y.n):=by
 obtain⟨y0,y1,y2,n,_,hl,h0,h1,h2⟩:=Deep.trod_struct3 Tryz.underlying98 h;rw[HF] at hl
 obtain⟨c0,c1,c2,rfl⟩: ∃a b c,cs=[a,b,c]:=by
  match cs,hl with
  | [a,b,c],_=>exact⟨a,b,c,rfl⟩
 obtain⟨k,e0,_,_⟩:=dD Tryz.underlying3 h0;obtain⟨m,e1,_,wm⟩:=dD Tryz.underlying3 h1;obtain⟨s,e2,_,w0⟩:=dB Tryz.underlying9 h2;rw[show Tryz.prog.cellsOf 3=1 by kernel_rfl] at e0 e1;rw[show Tryz.prog.cellsOf 9=1 by kernel_rfl] at e2;simp at e0 e1 e2;subst e0 e1 e2;exact⟨⟨k,m,s⟩,.cons (.r _ _) (.cons (.r _ _) (.cons (.r _ _) .nil)),by simp[Value.oneCell'],w0,ZD wm⟩
theorem Q5 {H:Type}{E:TypeId×Value->H}{w:World}{base:Nat}{spare:Nat->Bool}{held:Bool}(fuel:Nat)(cs:List Value)(x:DataW H×List MemPlace)
  (h:DataW.trod E Tryz.prog w base spare held fuel 139 cs=some x): ∃y:OP,Reps w (FH w) [] (eO y) cs/\(∀v ∈ cs,v.oneCell'=true)/\(IK y/\Oh y.vn):=by
 obtain⟨y0,y1,y2,n,_,hl,h0,h1,h2⟩:=Deep.trod_struct3 Tryz.underlying139 h;rw[Mn] at hl
 obtain⟨c0,c1,c2,c3,c4,rfl⟩: ∃a b c d e,cs=[a,b,c,d,e]:=by
  match cs,hl with
  | [a,b,c,d,e],_=>exact⟨a,b,c,d,e,rfl⟩
 obtain⟨k,e0,_,_⟩:=dD Tryz.underlying3 h0;obtain⟨⟨vk,vn,vs⟩,e1,_,w1,wn⟩:=Nt _ _ _ h1;obtain⟨s,e2,_,w2⟩:=dB Tryz.underlying9 h2;rw[show Tryz.prog.cellsOf 3=1 by kernel_rfl] at e0;rw[HF] at e1;rw[show Tryz.prog.cellsOf 9=1 by kernel_rfl] at e2;simp at e0 e2
 have e1':Reps w (FH w) [] (eV ⟨vk,vn,vs⟩) [c1,c2,c3]:=by simpa using e1
 obtain⟨_,_,r1,q1,q2⟩:=e1'.head;cases r1;obtain⟨_,_,r1,q3,q4⟩:=q2.head;cases r1;obtain⟨_,_,r1,q5,_⟩:=q4.head;cases r1;obtain rfl:=q1.r_inv;obtain rfl:=q3.r_inv;obtain rfl:=q5.r_inv;subst e0 e2;exact⟨⟨k,vk,vn,vs,s⟩,.cons (.r _ _) (.cons (.r _ _) (.cons (.r _ _) (.cons (.r _ _) (.cons (.r _ _) .nil)))),by simp[Value.oneCell'],⟨w1,w2⟩,wn⟩
theorem JO:Tryz.prog.cellsOf 9=1:=by kernel_rfl
theorem Vh {H:Type}{E:TypeId×Value->H}{w:World}{base:Nat}{spare:Nat->Bool}{held:Bool}(fuel:Nat)(cs:List Value)(x:DataW H×List MemPlace)
  (h:DataW.trod E Tryz.prog w base spare held fuel 9 cs=some x): ∃y:ByteArray,Reps w (FH w) [] (BK y) cs/\(∀v ∈ cs,v.oneCell'=true)/\FG y:=by
 obtain⟨s,e0,_,w0⟩:=dB Tryz.underlying9 h;subst e0;exact⟨s,.cons (.r _ _) .nil,by simp[Value.oneCell'],w0⟩
theorem HK {H α:Type}{l:List α}{R:α->Prop}{d:DataW H}(h:(l=[]/\d= .nil)\/ ∃ds rest,d= .slice ds rest/\ds.length=l.length/\ ∀(i:Nat) y,l[i]?=some y-> ∃d,ds[i]?=some d/\R y): ∀y ∈ l,R y:=by
 intro c hc;obtain⟨i,hi⟩:=aO.1 hc
 rcases h with ⟨rfl,_⟩ |⟨ds,rest,_,_,h6⟩
 ·simp at hi
 ·exact(h6 i c hi).choose_spec.2
theorem Vf {α:Type}{l:List α}(h:l.length=12): ∃a b c d e f g i j k m n,l=[a,b,c,d,e,f,g,i,j,k,m,n]:=by
 match l,h with
 | [a,b,c,d,e,f,g,i,j,k,m,n],_=>exact⟨a,b,c,d,e,f,g,i,j,k,m,n,rfl⟩
theorem X8 {H:Type}{E:TypeId×Value->H}{w:World}{base:Nat}{spare:Nat->Bool}{held:Bool}{b0:Nat}{v:Value}{d:DataW H}{p:List MemPlace}
  (hv:Value.okWide Tryz.prog w .any b0 30 v) (h:DataW.Trod E Tryz.prog w base spare held 30 v d p):
  ∃s:ST,Rep w (FH w) [] (.agg (AI s)) v/\(Rows.uptoBulk d≤1048576->okST s)/\bdST s:=by
 obtain⟨cs,rfl,hsz⟩:=okWide_struct Tryz.underlying30 hv;rw[show Tryz.prog.cellsOf 30=12 by kernel_rfl] at hsz;obtain⟨fuel,hf⟩:=h;obtain⟨c0,c1,c2,c3,c4,c5,c6,c7,c8,c9,c10,c11,hcs⟩:=Vf (l:=cs.toList) (by simpa using hsz)
 have hcl:(Value.agg cs).cells.toList=[c0,c1,c2,c3,c4,c5,c6,c7,c8,c9,c10,c11]:=by simpa[Value.cells] using hcs
 rw[hcl] at hf;obtain⟨xs,n,_,hx,_,hxl,hff⟩:=fE Tryz.underlying30 hf;obtain⟨x0,x1,x2,x3,x4,x5,x6,x7,x8,x9,x10,x11,rfl⟩:=Vf (l:=xs) hxl
 have ci:Tryz.prog.cellsOf 3=1:=by kernel_rfl
 have cb:Tryz.prog.cellsOf 4=1:=by kernel_rfl
 have cc:Tryz.prog.cellsOf 25=1:=by kernel_rfl
 have cv:Tryz.prog.cellsOf 26=1:=by kernel_rfl
 have cn:Tryz.prog.cellsOf 27=1:=by kernel_rfl
 have co:Tryz.prog.cellsOf 28=1:=by kernel_rfl
 have h0:DataW.trod E Tryz.prog w base spare held n 3 (([c0,c1,c2,c3,c4,c5,c6,c7,c8,c9,c10,c11].drop 0).take (Tryz.prog.cellsOf 3))=some x0:=hff 0 _ rfl;rw[ci] at h0;have h1:DataW.trod E Tryz.prog w base spare held n 9 (([c0,c1,c2,c3,c4,c5,c6,c7,c8,c9,c10,c11].drop 1).take (Tryz.prog.cellsOf 9))=some x1:=hff 1 _ rfl;rw[JO] at h1;have h2:DataW.trod E Tryz.prog w base spare held n 25 (([c0,c1,c2,c3,c4,c5,c6,c7,c8,c9,c10,c11].drop 2).take (Tryz.prog.cellsOf 25))=some x2:=hff 2 _ rfl;rw[cc] at h2;have h3:DataW.trod E Tryz.prog w base spare held n 26 (([c0,c1,c2,c3,c4,c5,c6,c7,c8,c9,c10,c11].drop 3).take (Tryz.prog.cellsOf 26))=some x3:=hff 3 _ rfl;rw[cv] at h3;have h4:DataW.trod E Tryz.prog w base spare held n 27 (([c0,c1,c2,c3,c4,c5,c6,c7,c8,c9,c10,c11].drop 4).take (Tryz.prog.cellsOf 27))=some x4:=hff 4 _ rfl;rw[cn] at h4;have h5:DataW.trod E Tryz.prog w base spare held n 4 (([c0,c1,c2,c3,c4,c5,c6,c7,c8,c9,c10,c11].drop 5).take (Tryz.prog.cellsOf 4))=some x5:=hff 5 _ rfl;rw[cb] at h5;have h6:DataW.trod E Tryz.prog w base spare held n 28 (([c0,c1,c2,c3,c4,c5,c6,c7,c8,c9,c10,c11].drop 6).take (Tryz.prog.cellsOf 28))=some x6:=hff 6 _ rfl;rw[co] at h6;have h7:DataW.trod E Tryz.prog w base spare held n 9 (([c0,c1,c2,c3,c4,c5,c6,c7,c8,c9,c10,c11].drop 7).take (Tryz.prog.cellsOf 9))=some x7:=hff 7 _ rfl;rw[JO] at h7;have h8:DataW.trod E Tryz.prog w base spare held n 4 (([c0,c1,c2,c3,c4,c5,c6,c7,c8,c9,c10,c11].drop 8).take (Tryz.prog.cellsOf 4))=some x8:=hff 8 _ rfl;rw[cb] at h8;have h9:DataW.trod E Tryz.prog w base spare held n 3 (([c0,c1,c2,c3,c4,c5,c6,c7,c8,c9,c10,c11].drop 9).take (Tryz.prog.cellsOf 3))=some x9:=hff 9 _ rfl;rw[ci] at h9;have h10:DataW.trod E Tryz.prog w base spare held n 9 (([c0,c1,c2,c3,c4,c5,c6,c7,c8,c9,c10,c11].drop 10).take (Tryz.prog.cellsOf 9))=some x10:=hff 10 _ rfl;rw[JO] at h10;have h11:DataW.trod E Tryz.prog w base spare held n 28 (([c0,c1,c2,c3,c4,c5,c6,c7,c8,c9,c10,c11].drop 11).take (Tryz.prog.cellsOf 28))=some x11:=hff 11 _ rfl;rw[co] at h11;obtain⟨k,e0,_,_⟩:=dD Tryz.underlying3 h0;obtain⟨tab,e1,_,w1⟩:=dB Tryz.underlying9 h1;obtain⟨u2,lc,e2,r2,_,g2⟩:=Ci eC (fun y _=>FG y.nm) true Tryz.underlying25 Mo (by omega) Q6 h2;obtain⟨u3,lr,e3,r3,_,g3⟩:=Ci eV (fun y _=>FG y.s/\Oh y.n) true Tryz.underlying26 HF (by omega) Nt h3;obtain⟨u4,ln,e4,r4,_,g4⟩:=Ci BK (fun y _=>FG y) true Tryz.underlying27 JO (by omega) Vh h4;obtain⟨cnt,e5,_⟩:=DataW.trod_bool Tryz.underlying4 h5;obtain⟨u6,lw,e6,r6,_,g6⟩:=Ci eO (fun y _=>IK y/\Oh y.vn) true Tryz.underlying28 Mn (by omega) Q5 h6;obtain⟨ord,e7,_,w7⟩:=dB Tryz.underlying9 h7;obtain⟨dn,e8,_⟩:=DataW.trod_bool Tryz.underlying4 h8;obtain⟨lim,e9,_,_⟩:=dD Tryz.underlying3 h9;obtain⟨st,e10,_,w10⟩:=dB Tryz.underlying9 h10;obtain⟨u11,lt,e11,r11,_,g11⟩:=Ci eO (fun y _=>IK y/\Oh y.vn) true Tryz.underlying28 Mn (by omega) Q5 h11;simp at e0 e1 e2 e3 e4 e5 e6 e7 e8 e9 e10 e11;subst e0 e1 e2 e3 e4 e5 e6 e7 e8 e9 e10 e11;refine⟨⟨k,tab,lc,lr,ln,cnt,lw,ord,dn,lim,st,lt⟩,?_,fun hb=>?_,?_⟩
 ·have hr:Reps w (FH w) [] (AI ⟨k,tab,lc,lr,ln,cnt,lw,ord,dn,lim,st,lt⟩) cs.toList:=by
   rw[hcs];exact .cons (.r _ _) (.cons (.r _ _) (.cons r2 (.cons r3 (.cons r4 (.cons (.r _ _) (.cons r6 (.cons (.r _ _) (.cons (.r _ _) (.cons (.r _ _) (.cons (.r _ _) (.cons r11 .nil)))))))))))
  have:=Rep.agg [] (AI ⟨k,tab,lc,lr,ln,cnt,lw,ord,dn,lim,st,lt⟩) cs.toList hr.1 hr.2;simpa using this
 ·simp only[cH] at hx
  rw[hx.1] at hb;have b2:=Cl g2;have b3:=Cl g3;have b4:=Cl g4;have b6:=Cl g6;have b11:=Cl g11;simp only[List.map_cons,List.map_nil,Rows.uptoBulk,Rows.uptoBulkAll] at hb;exact⟨w1,HK g2,fun y hy=>(HK g3 y hy).1,HK g4,fun y hy=>(HK g6 y hy).1,w7,w10,fun y hy=>(HK g11 y hy).1,by simp only;omega,by simp only;omega,by simp only;omega,by simp only;omega,by simp only;omega⟩
 ·exact⟨fun y hy=>(HK g3 y hy).2,fun y hy=>(HK g6 y hy).2,fun y hy=>(HK g11 y hy).2⟩
theorem Sr {H:Type}{E:TypeId×Value->H}{w:World}{base:Nat}{spare:Nat->Bool}{held:Bool}(fuel:Nat)(cs:List Value)(x:DataW H×List MemPlace)
  (h:DataW.trod E Tryz.prog w base spare held fuel 5 cs=some x): ∃y:UInt8,Reps w (FH w) [] (AC y) cs/\(∀v ∈ cs,v.oneCell'=true)/\True:=by
 obtain⟨n,rfl,_,wf⟩:=dD Tryz.underlying5 h
 have hb:0≤n/\n≤255:=by simpa[Lit.wf,IntKind.min,IntKind.max,IntKind.signed,IntKind.bits] using wf
 refine⟨UInt8.ofNat n.toNat,?_,by simp[Value.oneCell'],trivial⟩
 have:((UInt8.ofNat n.toNat).toNat:Int)=n:=by
  rw[UInt8.toNat_ofNat_of_lt' (by simp[UInt8.size];omega)];omega
 rw[AC,this];exact rep1 (.r _ _)
theorem HG {H:Type}: ∀ {l:List (DataW H)}{d:DataW H},d ∈ l->Rows.uptoBulk d≤Rows.uptoBulkAll l
 |x::r,d,h=>by
  rcases bA.1 h with rfl |h
  ·simp only[Rows.uptoBulkAll];omega
  ·have:=HG h;simp only[Rows.uptoBulkAll];omega
theorem WM {H α:Type}{l:List α}{f:α->Nat}{d:DataW H}(h:(l=[]/\d= .nil)\/ ∃ds rest,d= .slice ds rest/\ds.length=l.length/\ ∀(i:Nat) y,l[i]?=some y-> ∃d,ds[i]?=some d/\f y≤Rows.uptoBulk d): ∀y ∈ l,f y≤Rows.uptoBulk d:=by
 intro c hc;obtain⟨i,hi⟩:=aO.1 hc
 rcases h with ⟨rfl,_⟩ |⟨ds,rest,rfl,_,h6⟩
 ·simp at hi
 ·obtain⟨d,h1,h2⟩:=h6 i c hi
  have:=HG (aB h1);simp only[Rows.uptoBulk];omega
theorem T7:Tryz.prog.cellsOf 5=1:=by kernel_rfl
theorem TC:Tryz.prog.cellsOf 58=1:=by kernel_rfl
theorem Ow:Tryz.prog.cellsOf 3=1:=by kernel_rfl
theorem UF {H:Type}{E:TypeId×Value->H}{w:World}{base:Nat}{spare:Nat->Bool}{held:Bool}(fuel:Nat)(cs:List Value)(x:DataW H×List MemPlace)
  (h:DataW.trod E Tryz.prog w base spare held fuel 3 cs=some x): ∃y:Int,Reps w (FH w) [] (eI y) cs/\(∀v ∈ cs,v.oneCell'=true)/\True:=by
 obtain⟨n,rfl,_,_⟩:=dD Tryz.underlying3 h;exact⟨n,.cons (.r _ _) .nil,by simp[Value.oneCell'],trivial⟩
theorem XM {H:Type}{E:TypeId×Value->H}{w:World}{base:Nat}{spare:Nat->Bool}{held:Bool}(fuel:Nat)(cs:List Value)(x:DataW H×List MemPlace)
  (h:DataW.trod E Tryz.prog w base spare held fuel 58 cs=some x): ∃y:Ky,Reps w (FH w) [] (DV y) cs/\(∀v ∈ cs,v.oneCell'=true)/\y.length≤Rows.uptoBulk x.1:=by
 obtain⟨u,l,h1,h2,h4,h3⟩:=Ci AC (fun _ _=>True) true Tryz.underlying58 T7 (by omega) Sr h;subst h1;exact⟨l,.cons h2 .nil,by simpa using h4,Cl h3⟩
theorem Ve {α:Type}{l:List α}(h:l.length=5): ∃a b c d e,l=[a,b,c,d,e]:=by
 match l,h with
 | [a,b,c,d,e],_=>exact⟨a,b,c,d,e,rfl⟩
def A0e (p:PG)(n:Nat):Prop:=p.keys.length≤n/\p.kids.length≤n/\p.high.length≤n/\ ∀k ∈ p.keys,k.length≤n
theorem TA:Tryz.prog.cellsOf 121=5:=by kernel_rfl
theorem XL {H:Type}{E:TypeId×Value->H}{w:World}{base:Nat}{spare:Nat->Bool}{held:Bool}(fuel:Nat)(cs:List Value)(x:DataW H×List MemPlace)
  (h:DataW.trod E Tryz.prog w base spare held fuel 121 cs=some x): ∃y:PG,Reps w (FH w) [] (eP y) cs/\(∀v ∈ cs,v.oneCell'=true)/\A0e y (Rows.uptoBulk x.1):=by
 obtain⟨xs,n,_,hx,hl,hxl,hff⟩:=fE Tryz.underlying121 h;rw[TA] at hl;obtain⟨c0,c1,c2,c3,c4,rfl⟩:=Ve hl;obtain⟨x0,x1,x2,x3,x4,rfl⟩:=Ve (l:=xs) hxl
 have cb:Tryz.prog.cellsOf 4=1:=by kernel_rfl
 have ck:Tryz.prog.cellsOf 118=1:=by kernel_rfl
 have ci:Tryz.prog.cellsOf 119=1:=by kernel_rfl
 have h0:DataW.trod E Tryz.prog w base spare held n 4 (([c0,c1,c2,c3,c4].drop 0).take (Tryz.prog.cellsOf 4))=some x0:=hff 0 _ rfl;rw[cb] at h0;have h1:DataW.trod E Tryz.prog w base spare held n 118 (([c0,c1,c2,c3,c4].drop 1).take (Tryz.prog.cellsOf 118))=some x1:=hff 1 _ rfl;rw[ck] at h1;have h2:DataW.trod E Tryz.prog w base spare held n 119 (([c0,c1,c2,c3,c4].drop 2).take (Tryz.prog.cellsOf 119))=some x2:=hff 2 _ rfl;rw[ci] at h2;have h3:DataW.trod E Tryz.prog w base spare held n 58 (([c0,c1,c2,c3,c4].drop 3).take (Tryz.prog.cellsOf 58))=some x3:=hff 3 _ rfl;rw[TC] at h3;have h4:DataW.trod E Tryz.prog w base spare held n 3 (([c0,c1,c2,c3,c4].drop 4).take (Tryz.prog.cellsOf 3))=some x4:=hff 4 _ rfl;rw[Ow] at h4;obtain⟨lf,e0,_⟩:=DataW.trod_bool Tryz.underlying4 h0;obtain⟨u1,lk,e1,r1,o1,g1⟩:=Ci DV (fun y d=>y.length≤Rows.uptoBulk d) true Tryz.underlying118 TC (by omega) XM h1;obtain⟨u2,li,e2,r2,o2,g2⟩:=Ci eI (fun _ _=>True) true Tryz.underlying119 Ow (by omega) UF h2;obtain⟨u3,lh,e3,r3,o3,g3⟩:=Ci AC (fun _ _=>True) true Tryz.underlying58 T7 (by omega) Sr h3;obtain⟨nx,e4,_,_⟩:=dD Tryz.underlying3 h4;simp at e0 e1 e2 e3 e4;subst e0 e1 e2 e3 e4
 refine⟨⟨lf,lk,li,lh,nx⟩,.cons (.r _ _) (.cons r1 (.cons r2 (.cons r3 (.cons (.r _ _) .nil)))),(by
  intro v hv;simp only[bA,eU,or_false] at hv
  rcases hv with rfl |rfl |rfl |rfl |rfl<;>first |rfl |assumption),?_⟩
 rw[hx];have b1:=Cl g1;have b2:=Cl g2;have b3:=Cl g3;have b4:=WM g1;simp only[List.map_cons,List.map_nil,Rows.uptoBulk,Rows.uptoBulkAll];exact⟨by simp only;omega,by simp only;omega,by simp only;omega,fun k hk=>by have:=b4 k hk;omega⟩
theorem T8:Tryz.prog.cellsOf 43=2:=by kernel_rfl
theorem Z5 {n:Int}(h:(Lit.int .i64 n).wf=true):Oh n:=by
 simp only[Lit.wf,aJ,aP] at h;exact⟨h.1,h.2⟩
theorem UE {H:Type}{E:TypeId×Value->H}{w:World}{base:Nat}{spare:Nat->Bool}{held:Bool}(fuel:Nat)(cs:List Value)(x:DataW H×List MemPlace)
  (h:DataW.trod E Tryz.prog w base spare held fuel 98 cs=some x): ∃y:V,Reps w (FH w) [] (eV y) cs/\(∀v ∈ cs,v.oneCell'=true)/\gV y:=by
 obtain⟨y0,y1,y2,n,_,hl,h0,h1,h2⟩:=Deep.trod_struct3 Tryz.underlying98 h;rw[HF] at hl
 obtain⟨c0,c1,c2,rfl⟩: ∃a b c,cs=[a,b,c]:=by
  match cs,hl with
  | [a,b,c],_=>exact⟨a,b,c,rfl⟩
 obtain⟨k,e0,_,_⟩:=dD Tryz.underlying3 h0;obtain⟨m,e1,_,wm⟩:=dD Tryz.underlying3 h1;obtain⟨s,e2,_,w0⟩:=dB Tryz.underlying9 h2;rw[show Tryz.prog.cellsOf 3=1 by kernel_rfl] at e0 e1;rw[show Tryz.prog.cellsOf 9=1 by kernel_rfl] at e2;simp at e0 e1 e2;subst e0 e1 e2;exact⟨⟨k,m,s⟩,.cons (.r _ _) (.cons (.r _ _) (.cons (.r _ _) .nil)),by simp[Value.oneCell'],w0,Z5 wm⟩
theorem A0l {α:Type}{l:List α}(h:l.length=4): ∃a b c d,l=[a,b,c,d]:=by
 match l,h with
 | [a,b,c,d],_=>exact⟨a,b,c,d,rfl⟩
theorem YF {α:Type}{l:List α}(h:l.length=2): ∃a b,l=[a,b]:=by
 match l,h with
 | [a,b],_=>exact⟨a,b,rfl⟩
theorem Xl:Tryz.prog.cellsOf 26=1:=by kernel_rfl
theorem T9:Tryz.prog.cellsOf 45=5:=by kernel_rfl
theorem XK {H:Type}{E:TypeId×Value->H}{w:World}{base:Nat}{spare:Nat->Bool}{held:Bool}(fuel:Nat)(cs:List Value)(x:DataW H×List MemPlace)
  (h:DataW.trod E Tryz.prog w base spare held fuel 26 cs=some x): ∃y:List V,Reps w (FH w) [] (LG y) cs/\(∀v ∈ cs,v.oneCell'=true)/\(y.length≤Rows.uptoBulk x.1/\ ∀v ∈ y,gV v):=by
 obtain⟨u,l,h1,h2,h4,h3⟩:=Ci eV (fun y _=>gV y) true Tryz.underlying26 HF (by omega) UE h;subst h1;refine⟨l,.cons h2 .nil,by simpa using h4,Cl h3,fun c hc=>?_⟩;obtain⟨i,hi⟩:=aO.1 hc
 rcases h3 with ⟨rfl,_⟩ |⟨ds,rest,_,_,h6⟩
 ·simp at hi
 ·exact(h6 i c hi).choose_spec.2
theorem XI {H:Type}{E:TypeId×Value->H}{w:World}{base:Nat}{spare:Nat->Bool}{held:Bool}(fuel:Nat)(cs:List Value)(x:DataW H×List MemPlace)
  (h:DataW.trod E Tryz.prog w base spare held fuel 43 cs=some x): ∃(ps:List PG)(root:Int),Reps w (FH w) [] [.ro true 5 (ps.map eP),.r (.int .i64 root)] cs/\(∀v ∈ cs,v.oneCell'=true)/\(Rows.uptoBulk x.1≤1048576->Dk ps):=by
 obtain⟨xs,n,_,hx,hl,hxl,hff⟩:=fE Tryz.underlying43 h;rw[T8] at hl;obtain⟨c0,c1,rfl⟩:=YF hl;obtain⟨x0,x1,rfl⟩:=YF (l:=xs) hxl;have h0:DataW.trod E Tryz.prog w base spare held n 41 (([c0,c1].drop 0).take (Tryz.prog.cellsOf 41))=some x0:=hff 0 _ rfl;rw[show Tryz.prog.cellsOf 41=1 by kernel_rfl] at h0;have h1:DataW.trod E Tryz.prog w base spare held n 3 (([c0,c1].drop 1).take (Tryz.prog.cellsOf 3))=some x1:=hff 1 _ rfl;rw[Ow] at h1;obtain⟨u0,l,e0,r0,o0,g0⟩:=Ci eP (fun y d=>A0e y (Rows.uptoBulk d)) true Tryz.underlying41 TA (by omega) XL h0;obtain⟨rt,e1,_,_⟩:=dD Tryz.underlying3 h1;simp at e0 e1;subst e0 e1
 refine⟨l,rt,.cons r0 (.cons (.r _ _) .nil),(by
  intro v hv;simp only[bA,eU,or_false] at hv
  rcases hv with rfl |rfl<;>first |rfl |assumption),fun hb=>?_⟩
 rw[hx] at hb;simp only[List.map_cons,List.map_nil,Rows.uptoBulk,Rows.uptoBulkAll] at hb;have b0:=Cl g0;refine⟨by omega,fun q hq=>?_⟩;obtain⟨i,hi⟩:=aO.1 hq
 rcases g0 with ⟨rfl,_⟩ |⟨ds,rest,hd,_,h6⟩
 ·simp at hi
 ·obtain⟨d,k1,k2,k3,k4,k5⟩:=h6 i q hi
  have k6:=HG (aB k1);rw[hd] at hb;simp only[Rows.uptoBulk] at hb;exact⟨by omega,by omega,by omega,fun k hk=>by have:=k5 k hk;omega⟩
theorem XJ {H:Type}{E:TypeId×Value->H}{w:World}{base:Nat}{spare:Nat->Bool}{held:Bool}(fuel:Nat)(cs:List Value)(x:DataW H×List MemPlace)
  (h:DataW.trod E Tryz.prog w base spare held fuel 45 cs=some x): ∃y:TB,Reps w (FH w) [] (Ad y) cs/\(∀v ∈ cs,v.oneCell'=true)/\(Rows.uptoBulk x.1≤1048576->okTB y):=by
 obtain⟨xs,n,_,hx,hl,hxl,hff⟩:=fE Tryz.underlying45 h;rw[T9] at hl;obtain⟨c0,c1,c2,c3,c4,rfl⟩:=Ve hl;obtain⟨x0,x1,x2,x3,rfl⟩:=A0l (l:=xs) hxl;have h0:DataW.trod E Tryz.prog w base spare held n 9 (([c0,c1,c2,c3,c4].drop 0).take (Tryz.prog.cellsOf 9))=some x0:=hff 0 _ rfl;rw[show Tryz.prog.cellsOf 9=1 by kernel_rfl] at h0;have h1:DataW.trod E Tryz.prog w base spare held n 25 (([c0,c1,c2,c3,c4].drop 1).take (Tryz.prog.cellsOf 25))=some x1:=hff 1 _ rfl;rw[show Tryz.prog.cellsOf 25=1 by kernel_rfl] at h1;have h2:DataW.trod E Tryz.prog w base spare held n 40 (([c0,c1,c2,c3,c4].drop 2).take (Tryz.prog.cellsOf 40))=some x2:=hff 2 _ rfl;rw[show Tryz.prog.cellsOf 40=1 by kernel_rfl] at h2;have h3:DataW.trod E Tryz.prog w base spare held n 43 (([c0,c1,c2,c3,c4].drop 3).take (Tryz.prog.cellsOf 43))=some x3:=hff 3 _ rfl;rw[T8] at h3;obtain⟨s,e0,_,w0⟩:=dB Tryz.underlying9 h0;obtain⟨u1,lc,e1,r1,o1,g1⟩:=Ci eC (fun y _=>y.nm.size≤maxLen) true Tryz.underlying25 Mo (by omega) Q6 h1;obtain⟨u2,lr,e2,r2,o2,g2⟩:=Ci LG (fun y d=>y.length≤Rows.uptoBulk d/\ ∀v ∈ y,gV v) true Tryz.underlying40 Xl (by omega) XK h2;obtain⟨ps,root,r3,o3,g3⟩:=XI _ _ _ h3;simp at e0 e1 e2;subst e0 e1 e2
 refine⟨⟨s,lc,lr,ps,root⟩,.cons (.r _ _) (.cons r1 (.cons r2 r3)),(by
  intro v hv;simp only[bA,eU,or_false] at hv
  rcases hv with rfl |rfl |rfl |hv
  ·rfl
  ·assumption
  ·assumption
  ·exact o3 v (by simpa using hv)),fun hb=>?_⟩
 rw[hx] at hb;simp only[List.map_cons,List.map_nil,Rows.uptoBulk,Rows.uptoBulkAll] at hb;have b1:=Cl g1;have b2:=Cl g2;refine⟨w0,by simp only;omega,fun c hc=>?_,by simp only;omega,fun r hr=>?_,g3 (by omega)⟩
 ·obtain⟨i,hi⟩:=aO.1 hc
  rcases g1 with ⟨rfl,_⟩ |⟨ds,rest,_,_,h6⟩
  ·simp at hi
  ·exact(h6 i c hi).choose_spec.2
 ·obtain⟨i,hi⟩:=aO.1 hr
  rcases g2 with ⟨rfl,_⟩ |⟨ds,rest,hd,_,h6⟩
  ·simp at hi
  ·obtain⟨d,k1,k2,k3⟩:=h6 i r hi
   have k6:=HG (aB k1);rw[hd] at hb;simp only[Rows.uptoBulk] at hb;exact⟨by omega,k3⟩
theorem Ty {H:Type}{E:TypeId×Value->H}{w:World}{base:Nat}{spare:Nat->Bool}{held:Bool}{b0:Nat}{v:Value}{d:DataW H}{p:List MemPlace}
  (hv:Value.okWide Tryz.prog w .any b0 24 v) (h:DataW.Trod E Tryz.prog w base spare held 24 v d p):
  ∃l:List TB,Rep w (FH w) [] (.agg [.ro true 5 (l.map Ad)]) v/\(Rows.uptoBulk d≤1048576->RO l):=by
 obtain⟨cs,rfl,hsz⟩:=okWide_struct Tryz.underlying24 hv;rw[show Tryz.prog.cellsOf 24=1 by kernel_rfl] at hsz;obtain⟨fuel,hf⟩:=h;obtain⟨c0,hcs⟩: ∃a,cs.toList=[a]:=dT.1 (by simpa using hsz)
 have hcl:(Value.agg cs).cells.toList=[c0]:=by simpa[Value.cells] using hcs
 rw[hcl] at hf;obtain⟨xs,n,_,hx,_,hxl,hff⟩:=fE Tryz.underlying24 hf;obtain⟨x0,rfl⟩: ∃a,xs=[a]:=dT.1 hxl;have h0:DataW.trod E Tryz.prog w base spare held n 22 (([c0].drop 0).take (Tryz.prog.cellsOf 22))=some x0:=hff 0 _ rfl;rw[show Tryz.prog.cellsOf 22=1 by kernel_rfl] at h0;obtain⟨u0,l,e0,r0,o0,g0⟩:=Ci Ad (fun y d=>Rows.uptoBulk d≤1048576->okTB y) true Tryz.underlying22 T9 (by omega) XJ h0;simp at e0;subst e0;refine⟨l,?_,fun hb=>?_⟩
 ·have hr:Reps w (FH w) [] [.ro true 5 (l.map Ad)] cs.toList:=by rw[hcs];exact .cons r0 .nil
  have:=Rep.agg [] [.ro true 5 (l.map Ad)] cs.toList hr.1 hr.2
  rwa [Array.toArray_toList] at this
 ·have hd:d=(DataW.agg ([x0].map Prod.fst)):=congrArg Prod.fst hx
  rw[hd] at hb;simp only[List.map_cons,List.map_nil,Rows.uptoBulk,Rows.uptoBulkAll] at hb;have b0:=Cl g0;refine⟨by omega,fun q hq=>?_⟩;obtain⟨i,hi⟩:=aO.1 hq
  rcases g0 with ⟨rfl,_⟩ |⟨ds,rest,hd,_,h6⟩
  ·simp at hi
  ·obtain⟨d,k1,k2⟩:=h6 i q hi
   have k6:=HG (aB k1);rw[hd] at hb;simp only[Rows.uptoBulk] at hb;exact k2 (by omega)
end Go.Proofs.YtmohnlbeiaifhaaGreatDoor
