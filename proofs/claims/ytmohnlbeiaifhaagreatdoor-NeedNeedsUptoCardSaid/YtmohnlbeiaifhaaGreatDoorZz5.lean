/- Texts of the law NeedNeeds, part 5: lemmas; what is proved stands in the last text. -/
import Derived.Test.YtmohnlbeiaifhaaGreatDoorZz4
import Derived.Test.YtmohnlbeiaifhaaGreatDoorZz3
import Derived.OrdersIn
import Derived.OwnWalkIn
import Derived.RangeFuncNested
import Derived.RangeFuncLeaves
import Derived.Lib.Bytealg
import Derived.Lib.BytesEntry
import GoSem.Op.String
abbrev eS:=@Nat.add_comm
abbrev eE:=@Go.World.putObj_heap_other
abbrev fN:=@List.map_congr_left
abbrev dK:=@Nat.min_self
abbrev bZ:=@List.take_length
abbrev cX:=@List.flatMap_append
abbrev aH:=@List.getD_eq_getElem?_getD
abbrev cF:=@List.flatMap_cons
abbrev dR:=@List.nodup_append
abbrev eK:=@List.getElem?_mapIdx
abbrev fR:=@List.count_cons
abbrev dN:=@List.mem_flatMap
abbrev bH:=@eq_false
abbrev cN:=@UInt8.lt_iff_toNat_lt
abbrev gR:=@UInt8.toNat.inj
abbrev cC:=@List.length_singleton
abbrev fL:=@List.getElem_mem
open Go.Proofs.Tryz
set_option maxHeartbeats 32000000
set_option linter.unusedSimpArgs false
set_option linter.unusedVariables false
set_option maxRecDepth 100000
namespace Go.AM
open Go Go.RowKit
open Go.Proofs.YtmohnlbeiaifhaaGreatDoor (OP AH Bc AZ BM B4 StrsAt str Ks)
attribute [local irreducible] AWP DU
def Oo (s:ByteArray):Bool:=s.toList==ByteArray.toList ⟨#[]⟩
def UM (s:ST):Bool:=decide ((s.names.length:Int)>0)
def B5 (s:ST):Int:=
 if 6<s.names.length then 1 else if s.lim< -1 then 3 else if (s.count&&UM s)||(s.down&&Oo s.ord) then 6
 else if Bi s.names≠0 then Bi s.names else if B7 s.wh≠0 then B7 s.wh else if Oo s.ord then 0 else AH s.ord
structure okST (s:ST):Prop where
 tab:FG s.tab
 cols: ∀c ∈ s.cols,FG c.nm
 row: ∀v ∈ s.row,FG v.s
 names: ∀n ∈ s.names,FG n
 wh: ∀o ∈ s.wh,IK o
 ord:FG s.ord
 set:FG s.set
 to: ∀o ∈ s.to,IK o
 lc:s.cols.length≤1048576
 lr:s.row.length≤1048576
 ln:s.names.length≤1048576
 lw:s.wh.length≤1048576
 lt:s.to.length≤1048576
theorem VU {G:GL}(T:Tabs G)(s:ST)(o:okST s):Con prog G 79 [.agg (AI s)] [] 0 (Is (.r (.int .i64 (B5 s))) [] 0) No:=by
 refine cJ func79 fun E hG hE=>?_;subst hG;simp only[AX];have nc:=U6 T true s.names o.ln o.names;have wc:=JW T true s.wh o.lw o.wh;have oc:=C_ T s.ord o.ord
 by_cases h6:6<s.names.length
 ·have d1:decide ((s.names.length:Int)>6)=true:=aE (by omega)
  (repeat' (first |refine A0 ?_ |refine A4 ?_ |((refine sR (fun K kp=>?_));simp only[go_sem,AI,d1];(repeat' (refine K _ ?_;clear K kp))) |refine A2 rfl ?_ |refine A5 ?_));(refine rJ results79 ?_;refine eN hE ?_;simp[A8,ren,renL,B5,h6])
 have d1:decide ((s.names.length:Int)>6)=false:=aC (by omega)
 by_cases hl:s.lim< -1
 ·have d2:decide (s.lim< -1)=true:=aE hl
  (repeat' (first |refine A0 ?_ |refine A4 ?_ |((refine sR (fun K kp=>?_));simp only[go_sem,AI,d1,d2];(repeat' (refine K _ ?_;clear K kp))) |refine A2 rfl ?_ |refine A1 rfl ?_ |refine A5 ?_));(refine rJ results79 ?_;refine eN hE ?_;simp[A8,ren,renL,B5,h6,hl])
 have d2:decide (s.lim< -1)=false:=aC hl;cases hc:s.count
 ·skip
  cases hd:s.down
  ·skip
   by_cases n0:Bi s.names=0
   ·rw[n0] at nc
    by_cases w0:B7 s.wh=0
    ·rw[w0] at wc
     cases ho2:Oo s.ord
     ·have e2:(s.ord.toList==ByteArray.toList ⟨#[]⟩)=false:=ho2
      (repeat' (first |refine A0 ?_ |refine A4 ?_ |refine A3 ?_ |((first |refine sR (fun K kp=>?_) |refine cR nc ?_ |refine cR wc ?_ |refine cR oc ?_);simp only[go_sem,AI,d1,d2,hc,hd,e2];(repeat' (refine K _ ?_;clear K kp))) |refine A2 rfl ?_ |refine A1 rfl ?_ |refine A5 ?_));(refine rJ results79 ?_;refine eN hE ?_;simp[A8,ren,renL,B5,h6,hl,n0,w0,ho2,hc,hd])
     ·have e2:(s.ord.toList==ByteArray.toList ⟨#[]⟩)=true:=ho2
      first
       |(exfalso;simp_all;done)
       |((repeat' (first |refine A0 ?_ |refine A4 ?_ |refine A3 ?_ |((first |refine sR (fun K kp=>?_) |refine cR nc ?_ |refine cR wc ?_);simp only[go_sem,AI,d1,d2,hc,hd,e2];(repeat' (refine K _ ?_;clear K kp))) |refine A1 rfl ?_ |refine A5 ?_));(refine rJ results79 ?_;refine eN hE ?_;simp[A8,ren,renL,B5,h6,hl,n0,w0,ho2,hc,hd]))
    ·have b2:(B7 s.wh !=0)=true:=by simpa using w0
     (repeat' (first |refine A0 ?_ |refine A4 ?_ |refine A3 ?_ |((first |refine sR (fun K kp=>?_) |refine cR nc ?_ |refine cR wc ?_);simp only[go_sem,AI,d1,d2,hc,hd,b2];(repeat' (refine K _ ?_;clear K kp))) |refine A2 rfl ?_ |refine A1 rfl ?_ |refine A5 ?_));(refine rJ results79 ?_;refine eN hE ?_;simp[A8,ren,renL,B5,h6,hl,n0,w0,hc,hd])
   ·have b1:(Bi s.names !=0)=true:=by simpa using n0
    (repeat' (first |refine A0 ?_ |refine A4 ?_ |refine A3 ?_ |((first |refine sR (fun K kp=>?_) |refine cR nc ?_);simp only[go_sem,AI,d1,d2,hc,hd,b1];(repeat' (refine K _ ?_;clear K kp))) |refine A2 rfl ?_ |refine A1 rfl ?_ |refine A5 ?_));(refine rJ results79 ?_;refine eN hE ?_;simp[A8,ren,renL,B5,h6,hl,n0,hc,hd])
  cases ho:Oo s.ord
  ·have eo:(s.ord.toList==ByteArray.toList ⟨#[]⟩)=false:=ho
   by_cases n0:Bi s.names=0
   ·rw[n0] at nc
    by_cases w0:B7 s.wh=0
    ·rw[w0] at wc
     cases ho2:Oo s.ord
     ·have e2:(s.ord.toList==ByteArray.toList ⟨#[]⟩)=false:=ho2
      (repeat' (first |refine A0 ?_ |refine A4 ?_ |refine A3 ?_ |((first |refine sR (fun K kp=>?_) |refine cR nc ?_ |refine cR wc ?_ |refine cR oc ?_);simp only[go_sem,AI,d1,d2,hc,hd,eo,e2];(repeat' (refine K _ ?_;clear K kp))) |refine A2 rfl ?_ |refine A1 rfl ?_ |refine A5 ?_));(refine rJ results79 ?_;refine eN hE ?_;simp[A8,ren,renL,B5,h6,hl,n0,w0,ho2,hc,hd,ho])
     ·have e2:(s.ord.toList==ByteArray.toList ⟨#[]⟩)=true:=ho2
      first
       |(exfalso;simp_all;done)
       |((repeat' (refine A0 ?_));(refine rJ results79 ?_;refine eN hE ?_;simp[A8,ren,renL,B5,h6,hl,n0,w0,ho2,hc,hd,ho]))
    ·have b2:(B7 s.wh !=0)=true:=by simpa using w0
     (repeat' (first |refine A0 ?_ |refine A4 ?_ |refine A3 ?_ |((first |refine sR (fun K kp=>?_) |refine cR nc ?_ |refine cR wc ?_);simp only[go_sem,AI,d1,d2,hc,hd,eo,b2];(repeat' (refine K _ ?_;clear K kp))) |refine A2 rfl ?_ |refine A1 rfl ?_ |refine A5 ?_));(refine rJ results79 ?_;refine eN hE ?_;simp[A8,ren,renL,B5,h6,hl,n0,w0,hc,hd,ho])
   ·have b1:(Bi s.names !=0)=true:=by simpa using n0
    (repeat' (first |refine A0 ?_ |refine A4 ?_ |refine A3 ?_ |((first |refine sR (fun K kp=>?_) |refine cR nc ?_);simp only[go_sem,AI,d1,d2,hc,hd,eo,b1];(repeat' (refine K _ ?_;clear K kp))) |refine A2 rfl ?_ |refine A1 rfl ?_ |refine A5 ?_));(refine rJ results79 ?_;refine eN hE ?_;simp[A8,ren,renL,B5,h6,hl,n0,hc,hd,ho])
  ·have eo:(s.ord.toList==ByteArray.toList ⟨#[]⟩)=true:=ho
   (repeat' (first |refine A0 ?_ |refine A4 ?_ |((refine sR (fun K kp=>?_));simp only[go_sem,AI,d1,d2,hc,hd,eo];(repeat' (refine K _ ?_;clear K kp))) |refine A2 rfl ?_ |refine A1 rfl ?_ |refine A5 ?_));(refine rJ results79 ?_;refine eN hE ?_;simp[A8,ren,renL,B5,h6,hl,hc,hd,ho])
 cases hn:UM s
 ·have en:decide ((s.names.length:Int)>0)=false:=hn
  cases hd:s.down
  ·skip
   by_cases n0:Bi s.names=0
   ·rw[n0] at nc
    by_cases w0:B7 s.wh=0
    ·rw[w0] at wc
     cases ho2:Oo s.ord
     ·have e2:(s.ord.toList==ByteArray.toList ⟨#[]⟩)=false:=ho2
      (repeat' (first |refine A0 ?_ |refine A4 ?_ |refine A3 ?_ |((first |refine sR (fun K kp=>?_) |refine cR nc ?_ |refine cR wc ?_ |refine cR oc ?_);simp only[go_sem,AI,d1,d2,hc,en,hd,e2];(repeat' (refine K _ ?_;clear K kp))) |refine A2 rfl ?_ |refine A1 rfl ?_ |refine A5 ?_));(refine rJ results79 ?_;refine eN hE ?_;simp[A8,ren,renL,B5,h6,hl,n0,w0,ho2,hc,hn,hd])
     ·have e2:(s.ord.toList==ByteArray.toList ⟨#[]⟩)=true:=ho2
      first
       |(exfalso;simp_all;done)
       |((repeat' (first |refine A0 ?_ |refine A4 ?_ |refine A3 ?_ |((first |refine sR (fun K kp=>?_) |refine cR nc ?_ |refine cR wc ?_);simp only[go_sem,AI,d1,d2,hc,en,hd,e2];(repeat' (refine K _ ?_;clear K kp))) |refine A1 rfl ?_ |refine A5 ?_));(refine rJ results79 ?_;refine eN hE ?_;simp[A8,ren,renL,B5,h6,hl,n0,w0,ho2,hc,hn,hd]))
    ·have b2:(B7 s.wh !=0)=true:=by simpa using w0
     (repeat' (first |refine A0 ?_ |refine A4 ?_ |refine A3 ?_ |((first |refine sR (fun K kp=>?_) |refine cR nc ?_ |refine cR wc ?_);simp only[go_sem,AI,d1,d2,hc,en,hd,b2];(repeat' (refine K _ ?_;clear K kp))) |refine A2 rfl ?_ |refine A1 rfl ?_ |refine A5 ?_));(refine rJ results79 ?_;refine eN hE ?_;simp[A8,ren,renL,B5,h6,hl,n0,w0,hc,hn,hd])
   ·have b1:(Bi s.names !=0)=true:=by simpa using n0
    (repeat' (first |refine A0 ?_ |refine A4 ?_ |refine A3 ?_ |((first |refine sR (fun K kp=>?_) |refine cR nc ?_);simp only[go_sem,AI,d1,d2,hc,en,hd,b1];(repeat' (refine K _ ?_;clear K kp))) |refine A2 rfl ?_ |refine A1 rfl ?_ |refine A5 ?_));(refine rJ results79 ?_;refine eN hE ?_;simp[A8,ren,renL,B5,h6,hl,n0,hc,hn,hd])
  cases ho:Oo s.ord
  ·have eo:(s.ord.toList==ByteArray.toList ⟨#[]⟩)=false:=ho
   by_cases n0:Bi s.names=0
   ·rw[n0] at nc
    by_cases w0:B7 s.wh=0
    ·rw[w0] at wc
     cases ho2:Oo s.ord
     ·have e2:(s.ord.toList==ByteArray.toList ⟨#[]⟩)=false:=ho2
      (repeat' (first |refine A0 ?_ |refine A4 ?_ |refine A3 ?_ |((first |refine sR (fun K kp=>?_) |refine cR nc ?_ |refine cR wc ?_ |refine cR oc ?_);simp only[go_sem,AI,d1,d2,hc,en,hd,eo,e2];(repeat' (refine K _ ?_;clear K kp))) |refine A2 rfl ?_ |refine A1 rfl ?_ |refine A5 ?_));(refine rJ results79 ?_;refine eN hE ?_;simp[A8,ren,renL,B5,h6,hl,n0,w0,ho2,hc,hn,hd,ho])
     ·have e2:(s.ord.toList==ByteArray.toList ⟨#[]⟩)=true:=ho2
      first
       |(exfalso;simp_all;done)
       |((repeat' (refine A0 ?_));(refine rJ results79 ?_;refine eN hE ?_;simp[A8,ren,renL,B5,h6,hl,n0,w0,ho2,hc,hn,hd,ho]))
    ·have b2:(B7 s.wh !=0)=true:=by simpa using w0
     (repeat' (first |refine A0 ?_ |refine A4 ?_ |refine A3 ?_ |((first |refine sR (fun K kp=>?_) |refine cR nc ?_ |refine cR wc ?_);simp only[go_sem,AI,d1,d2,hc,en,hd,eo,b2];(repeat' (refine K _ ?_;clear K kp))) |refine A2 rfl ?_ |refine A1 rfl ?_ |refine A5 ?_));(refine rJ results79 ?_;refine eN hE ?_;simp[A8,ren,renL,B5,h6,hl,n0,w0,hc,hn,hd,ho])
   ·have b1:(Bi s.names !=0)=true:=by simpa using n0
    (repeat' (first |refine A0 ?_ |refine A4 ?_ |refine A3 ?_ |((first |refine sR (fun K kp=>?_) |refine cR nc ?_);simp only[go_sem,AI,d1,d2,hc,en,hd,eo,b1];(repeat' (refine K _ ?_;clear K kp))) |refine A2 rfl ?_ |refine A1 rfl ?_ |refine A5 ?_));(refine rJ results79 ?_;refine eN hE ?_;simp[A8,ren,renL,B5,h6,hl,n0,hc,hn,hd,ho])
  ·have eo:(s.ord.toList==ByteArray.toList ⟨#[]⟩)=true:=ho
   (repeat' (first |refine A0 ?_ |refine A4 ?_ |((refine sR (fun K kp=>?_));simp only[go_sem,AI,d1,d2,hc,en,hd,eo];(repeat' (refine K _ ?_;clear K kp))) |refine A2 rfl ?_ |refine A1 rfl ?_ |refine A5 ?_));(refine rJ results79 ?_;refine eN hE ?_;simp[A8,ren,renL,B5,h6,hl,hc,hn,hd,ho])
 ·have en:decide ((s.names.length:Int)>0)=true:=hn
  (repeat' (first |refine A0 ?_ |refine A4 ?_ |((refine sR (fun K kp=>?_));simp only[go_sem,AI,d1,d2,hc,en];(repeat' (refine K _ ?_;clear K kp))) |refine A2 rfl ?_ |refine A1 rfl ?_ |refine A5 ?_));(refine rJ results79 ?_;refine eN hE ?_;simp[A8,ren,renL,B5,h6,hl,hc,hn])
def AR (s:ST):Int:=
 if s.k=1 then Ag s.cols else if s.k=3 then Gh s.row else if s.k=4 then B5 s
 else if s.k=5 then (if AH s.set≠0 then AH s.set else if AZ s.to≠0 then AZ s.to else B7 s.wh)
 else if s.k=6 then B7 s.wh else 0
def b0:ByteArray:=⟨#[]⟩
def D0 (s:ST):ST:=
 if s.k=1 then ⟨s.k,s.tab,s.cols,[],[],false,[],b0,false,-1,b0,[]⟩
 else if s.k=2 then ⟨s.k,s.tab,[],[],[],false,[],b0,false,-1,b0,[]⟩
 else if s.k=3 then ⟨s.k,s.tab,[],s.row,[],false,[],b0,false,-1,b0,[]⟩
 else if s.k=4 then ⟨s.k,s.tab,[],[],s.names,s.count,s.wh,s.ord,s.down,s.lim,b0,[]⟩
 else if s.k=5 then ⟨s.k,s.tab,[],[],[],false,s.wh,b0,false,-1,s.set,s.to⟩
 else if s.k=6 then ⟨s.k,s.tab,[],[],[],false,s.wh,b0,false,-1,b0,[]⟩
 else ⟨s.k,b0,[],[],[],false,[],b0,false,-1,b0,[]⟩
def Bt (s:ST):Int:=if s.k<7/\AH s.tab≠0 then AH s.tab else if AR s≠0 then AR s else if CT s (D0 s)=true then 0 else 6
theorem CQ {s:ST}(h:s.k<7)(hn:AH s.tab≠0):Bt s=AH s.tab:=by rw[Bt,if_pos ⟨h,hn⟩]
theorem BT {s:ST}(h: ¬(s.k<7/\AH s.tab≠0))(hn:AR s≠0):Bt s=AR s:=by rw[Bt,if_neg h,if_pos hn]
theorem D3 {s:ST}(h: ¬(s.k<7/\AH s.tab≠0))(hn:AR s=0)(hb:CT s (D0 s)=true):Bt s=0:=by rw[Bt,if_neg h,if_neg (by simp[hn]),if_pos hb]
theorem CR {s:ST}(h: ¬(s.k<7/\AH s.tab≠0))(hn:AR s=0)(hb:CT s (D0 s)=false):Bt s=6:=by rw[Bt,if_neg h,if_neg (by simp[hn]),if_neg (by simp[hb])]
theorem Mm {G:GL}(T:Tabs G)(s:ST)(o:okST s)(hk:s.k=1):Con prog G 42 [.agg (AI s)] [] 0 (Is (.r (.int .i64 (Bt s))) [] 0) No:=by
 refine cJ func42 fun E hG hE=>?_;subst hG;simp only[AX];have tc:=C_ T s.tab o.tab
 by_cases hn:AH s.tab=0
 ·rw[hn] at tc
  have hh: ¬(s.k<7/\AH s.tab≠0):=fun h=>h.2 hn;have p0:=W9 T true s.cols o.lc o.cols
  by_cases z0:Ag s.cols=0
  ·rw[z0] at p0
   have hp:AR s=0:=by simp[AR,hk,z0]
   have hS:D0 s=⟨1,s.tab,s.cols,[],[],false,[],b0,false,-1,b0,[]⟩:=by simp[D0,hk]
   have bc:=FF E.G s (D0 s);cases hb:CT s (D0 s)
   ·rw[hb,hS] at bc
    simp only[AI,hk,List.map_nil] at bc;have bc:=bc.weak (xs:=[.agg [.r (.int .i64 1),.r (.string s.tab),.ro true 2 (s.cols.map eC),.ro true 3 (s.row.map eV),.ro true 1 (s.names.map BK),.r (.bool s.count),.ro true 5 (s.wh.map eO),.r (.string s.ord),.r (.bool s.down),.r (.int .i64 s.lim),.r (.string s.set),.ro true 5 (s.to.map eO)],.agg [.r (.int .i64 1),.r (.string s.tab),.ro true 2 (s.cols.map eC),.r (.slice none 0 0),.r (.slice none 0 0),.r (.bool false),.r (.slice none 0 0),.r (.string b0),.r (.bool false),.r (.int .i64 (-1)),.r (.string b0),.r (.slice none 0 0)]]) (by simp[Gb,wk]);(repeat' (first |refine A0 ?_ |refine A4 ?_ |refine A3 ?_ |((first |refine sR (fun K kp=>?_) |refine cR tc ?_ |refine cR p0 ?_ |refine cR bc ?_);simp -implicitDefEqProofs (maxSteps:=2000000) (disch:=omega) only[go_sem,AI,hk];(repeat' (refine K _ ?_;clear K kp))) |refine A2 rfl ?_ |refine A1 rfl ?_ |refine A5 ?_));(refine rJ results42 ?_;refine eN hE ?_;simp[A8,ren,renL,CR hh hp hb])
   ·rw[hb,hS] at bc
    simp only[AI,hk,List.map_nil] at bc;have bc:=bc.weak (xs:=[.agg [.r (.int .i64 1),.r (.string s.tab),.ro true 2 (s.cols.map eC),.ro true 3 (s.row.map eV),.ro true 1 (s.names.map BK),.r (.bool s.count),.ro true 5 (s.wh.map eO),.r (.string s.ord),.r (.bool s.down),.r (.int .i64 s.lim),.r (.string s.set),.ro true 5 (s.to.map eO)],.agg [.r (.int .i64 1),.r (.string s.tab),.ro true 2 (s.cols.map eC),.r (.slice none 0 0),.r (.slice none 0 0),.r (.bool false),.r (.slice none 0 0),.r (.string b0),.r (.bool false),.r (.int .i64 (-1)),.r (.string b0),.r (.slice none 0 0)]]) (by simp[Gb,wk]);(repeat' (first |refine A0 ?_ |refine A4 ?_ |refine A3 ?_ |((first |refine sR (fun K kp=>?_) |refine cR tc ?_ |refine cR p0 ?_ |refine cR bc ?_);simp -implicitDefEqProofs (maxSteps:=2000000) (disch:=omega) only[go_sem,AI,hk];(repeat' (refine K _ ?_;clear K kp))) |refine A2 rfl ?_ |refine A1 rfl ?_ |refine A5 ?_));(refine rJ results42 ?_;refine eN hE ?_;simp[A8,ren,renL,D3 hh hp hb])
  ·have y0:(Ag s.cols==0)=false:=by simpa using z0
   have hp:AR s=Ag s.cols:=by simp[AR,hk,z0]
   (repeat' (first |refine A0 ?_ |refine A4 ?_ |refine A3 ?_ |((first |refine sR (fun K kp=>?_) |refine cR tc ?_ |refine cR p0 ?_);simp -implicitDefEqProofs (maxSteps:=2000000) (disch:=omega) only[go_sem,AI,hk,y0];(repeat' (refine K _ ?_;clear K kp))) |refine A2 rfl ?_ |refine A1 rfl ?_ |refine A5 ?_));(refine rJ results42 ?_;refine eN hE ?_;simp[A8,ren,renL,BT hh (hp▸z0),hp])
 ·have bn:(AH s.tab !=0)=true:=by simpa using hn
  (repeat' (first |refine A0 ?_ |((first |refine sR (fun K kp=>?_) |refine cR tc ?_);simp -implicitDefEqProofs (maxSteps:=2000000) (disch:=omega) only[go_sem,AI,hk,bn];(repeat' (refine K _ ?_;clear K kp))) |refine A2 rfl ?_ |refine A5 ?_));(refine rJ results42 ?_;refine eN hE ?_;simp[A8,ren,renL,CQ (show s.k<7 by omega) hn])
theorem SD {G:GL}(T:Tabs G)(s:ST)(o:okST s)(hk:s.k=2):Con prog G 42 [.agg (AI s)] [] 0 (Is (.r (.int .i64 (Bt s))) [] 0) No:=by
 refine cJ func42 fun E hG hE=>?_;subst hG;simp only[AX];have tc:=C_ T s.tab o.tab
 by_cases hn:AH s.tab=0
 ·rw[hn] at tc
  have hh: ¬(s.k<7/\AH s.tab≠0):=fun h=>h.2 hn
  have hp:AR s=0:=by simp[AR,hk]
  have hS:D0 s=⟨2,s.tab,[],[],[],false,[],b0,false,-1,b0,[]⟩:=by simp[D0,hk]
  have bc:=FF E.G s (D0 s);cases hb:CT s (D0 s)
  ·rw[hb,hS] at bc
   simp only[AI,hk,List.map_nil] at bc;have bc:=bc.weak (xs:=[.agg [.r (.int .i64 2),.r (.string s.tab),.ro true 2 (s.cols.map eC),.ro true 3 (s.row.map eV),.ro true 1 (s.names.map BK),.r (.bool s.count),.ro true 5 (s.wh.map eO),.r (.string s.ord),.r (.bool s.down),.r (.int .i64 s.lim),.r (.string s.set),.ro true 5 (s.to.map eO)],.agg [.r (.int .i64 2),.r (.string s.tab),.r (.slice none 0 0),.r (.slice none 0 0),.r (.slice none 0 0),.r (.bool false),.r (.slice none 0 0),.r (.string b0),.r (.bool false),.r (.int .i64 (-1)),.r (.string b0),.r (.slice none 0 0)]]) (by simp[Gb,wk]);(repeat' (first |refine A0 ?_ |refine A4 ?_ |refine A3 ?_ |((first |refine sR (fun K kp=>?_) |refine cR tc ?_ |refine cR bc ?_);simp -implicitDefEqProofs (maxSteps:=2000000) (disch:=omega) only[go_sem,AI,hk];(repeat' (refine K _ ?_;clear K kp))) |refine A2 rfl ?_ |refine A1 rfl ?_ |refine A5 ?_));(refine rJ results42 ?_;refine eN hE ?_;simp[A8,ren,renL,CR hh hp hb])
  ·rw[hb,hS] at bc
   simp only[AI,hk,List.map_nil] at bc;have bc:=bc.weak (xs:=[.agg [.r (.int .i64 2),.r (.string s.tab),.ro true 2 (s.cols.map eC),.ro true 3 (s.row.map eV),.ro true 1 (s.names.map BK),.r (.bool s.count),.ro true 5 (s.wh.map eO),.r (.string s.ord),.r (.bool s.down),.r (.int .i64 s.lim),.r (.string s.set),.ro true 5 (s.to.map eO)],.agg [.r (.int .i64 2),.r (.string s.tab),.r (.slice none 0 0),.r (.slice none 0 0),.r (.slice none 0 0),.r (.bool false),.r (.slice none 0 0),.r (.string b0),.r (.bool false),.r (.int .i64 (-1)),.r (.string b0),.r (.slice none 0 0)]]) (by simp[Gb,wk]);(repeat' (first |refine A0 ?_ |refine A4 ?_ |refine A3 ?_ |((first |refine sR (fun K kp=>?_) |refine cR tc ?_ |refine cR bc ?_);simp -implicitDefEqProofs (maxSteps:=2000000) (disch:=omega) only[go_sem,AI,hk];(repeat' (refine K _ ?_;clear K kp))) |refine A2 rfl ?_ |refine A1 rfl ?_ |refine A5 ?_));(refine rJ results42 ?_;refine eN hE ?_;simp[A8,ren,renL,D3 hh hp hb])
 ·have bn:(AH s.tab !=0)=true:=by simpa using hn
  (repeat' (first |refine A0 ?_ |((first |refine sR (fun K kp=>?_) |refine cR tc ?_);simp -implicitDefEqProofs (maxSteps:=2000000) (disch:=omega) only[go_sem,AI,hk,bn];(repeat' (refine K _ ?_;clear K kp))) |refine A2 rfl ?_ |refine A5 ?_));(refine rJ results42 ?_;refine eN hE ?_;simp[A8,ren,renL,CQ (show s.k<7 by omega) hn])
theorem SC {G:GL}(T:Tabs G)(s:ST)(o:okST s)(hk:s.k=3):Con prog G 42 [.agg (AI s)] [] 0 (Is (.r (.int .i64 (Bt s))) [] 0) No:=by
 refine cJ func42 fun E hG hE=>?_;subst hG;simp only[AX];have tc:=C_ T s.tab o.tab
 by_cases hn:AH s.tab=0
 ·rw[hn] at tc
  have hh: ¬(s.k<7/\AH s.tab≠0):=fun h=>h.2 hn;have p0:=Ww E.G true s.row o.lr o.row
  by_cases z0:Gh s.row=0
  ·rw[z0] at p0
   have hp:AR s=0:=by simp[AR,hk,z0]
   have hS:D0 s=⟨3,s.tab,[],s.row,[],false,[],b0,false,-1,b0,[]⟩:=by simp[D0,hk]
   have bc:=FF E.G s (D0 s);cases hb:CT s (D0 s)
   ·rw[hb,hS] at bc
    simp only[AI,hk,List.map_nil] at bc;have bc:=bc.weak (xs:=[.agg [.r (.int .i64 3),.r (.string s.tab),.ro true 2 (s.cols.map eC),.ro true 3 (s.row.map eV),.ro true 1 (s.names.map BK),.r (.bool s.count),.ro true 5 (s.wh.map eO),.r (.string s.ord),.r (.bool s.down),.r (.int .i64 s.lim),.r (.string s.set),.ro true 5 (s.to.map eO)],.agg [.r (.int .i64 3),.r (.string s.tab),.r (.slice none 0 0),.ro true 3 (s.row.map eV),.r (.slice none 0 0),.r (.bool false),.r (.slice none 0 0),.r (.string b0),.r (.bool false),.r (.int .i64 (-1)),.r (.string b0),.r (.slice none 0 0)]]) (by simp[Gb,wk]);(repeat' (first |refine A0 ?_ |refine A4 ?_ |refine A3 ?_ |((first |refine sR (fun K kp=>?_) |refine cR tc ?_ |refine cR p0 ?_ |refine cR bc ?_);simp -implicitDefEqProofs (maxSteps:=2000000) (disch:=omega) only[go_sem,AI,hk];(repeat' (refine K _ ?_;clear K kp))) |refine A2 rfl ?_ |refine A1 rfl ?_ |refine A5 ?_));(refine rJ results42 ?_;refine eN hE ?_;simp[A8,ren,renL,CR hh hp hb])
   ·rw[hb,hS] at bc
    simp only[AI,hk,List.map_nil] at bc;have bc:=bc.weak (xs:=[.agg [.r (.int .i64 3),.r (.string s.tab),.ro true 2 (s.cols.map eC),.ro true 3 (s.row.map eV),.ro true 1 (s.names.map BK),.r (.bool s.count),.ro true 5 (s.wh.map eO),.r (.string s.ord),.r (.bool s.down),.r (.int .i64 s.lim),.r (.string s.set),.ro true 5 (s.to.map eO)],.agg [.r (.int .i64 3),.r (.string s.tab),.r (.slice none 0 0),.ro true 3 (s.row.map eV),.r (.slice none 0 0),.r (.bool false),.r (.slice none 0 0),.r (.string b0),.r (.bool false),.r (.int .i64 (-1)),.r (.string b0),.r (.slice none 0 0)]]) (by simp[Gb,wk]);(repeat' (first |refine A0 ?_ |refine A4 ?_ |refine A3 ?_ |((first |refine sR (fun K kp=>?_) |refine cR tc ?_ |refine cR p0 ?_ |refine cR bc ?_);simp -implicitDefEqProofs (maxSteps:=2000000) (disch:=omega) only[go_sem,AI,hk];(repeat' (refine K _ ?_;clear K kp))) |refine A2 rfl ?_ |refine A1 rfl ?_ |refine A5 ?_));(refine rJ results42 ?_;refine eN hE ?_;simp[A8,ren,renL,D3 hh hp hb])
  ·have y0:(Gh s.row==0)=false:=by simpa using z0
   have hp:AR s=Gh s.row:=by simp[AR,hk,z0]
   (repeat' (first |refine A0 ?_ |refine A4 ?_ |refine A3 ?_ |((first |refine sR (fun K kp=>?_) |refine cR tc ?_ |refine cR p0 ?_);simp -implicitDefEqProofs (maxSteps:=2000000) (disch:=omega) only[go_sem,AI,hk,y0];(repeat' (refine K _ ?_;clear K kp))) |refine A2 rfl ?_ |refine A1 rfl ?_ |refine A5 ?_));(refine rJ results42 ?_;refine eN hE ?_;simp[A8,ren,renL,BT hh (hp▸z0),hp])
 ·have bn:(AH s.tab !=0)=true:=by simpa using hn
  (repeat' (first |refine A0 ?_ |((first |refine sR (fun K kp=>?_) |refine cR tc ?_);simp -implicitDefEqProofs (maxSteps:=2000000) (disch:=omega) only[go_sem,AI,hk,bn];(repeat' (refine K _ ?_;clear K kp))) |refine A2 rfl ?_ |refine A5 ?_));(refine rJ results42 ?_;refine eN hE ?_;simp[A8,ren,renL,CQ (show s.k<7 by omega) hn])
theorem SB {G:GL}(T:Tabs G)(s:ST)(o:okST s)(hk:s.k=4):Con prog G 42 [.agg (AI s)] [] 0 (Is (.r (.int .i64 (Bt s))) [] 0) No:=by
 refine cJ func42 fun E hG hE=>?_;subst hG;simp only[AX];have tc:=C_ T s.tab o.tab
 by_cases hn:AH s.tab=0
 ·rw[hn] at tc
  have hh: ¬(s.k<7/\AH s.tab≠0):=fun h=>h.2 hn;have p0:=VU T s o;simp only[AI,hk] at p0
  by_cases z0:B5 s=0
  ·rw[z0] at p0
   have hp:AR s=0:=by simp[AR,hk,z0]
   have hS:D0 s=⟨4,s.tab,[],[],s.names,s.count,s.wh,s.ord,s.down,s.lim,b0,[]⟩:=by simp[D0,hk]
   have bc:=FF E.G s (D0 s);cases hb:CT s (D0 s)
   ·rw[hb,hS] at bc
    simp only[AI,hk,List.map_nil] at bc;have bc:=bc.weak (xs:=[.agg [.r (.int .i64 4),.r (.string s.tab),.ro true 2 (s.cols.map eC),.ro true 3 (s.row.map eV),.ro true 1 (s.names.map BK),.r (.bool s.count),.ro true 5 (s.wh.map eO),.r (.string s.ord),.r (.bool s.down),.r (.int .i64 s.lim),.r (.string s.set),.ro true 5 (s.to.map eO)],.agg [.r (.int .i64 4),.r (.string s.tab),.r (.slice none 0 0),.r (.slice none 0 0),.ro true 1 (s.names.map BK),.r (.bool s.count),.ro true 5 (s.wh.map eO),.r (.string s.ord),.r (.bool s.down),.r (.int .i64 s.lim),.r (.string b0),.r (.slice none 0 0)]]) (by simp[Gb,wk]);(repeat' (first |refine A0 ?_ |refine A4 ?_ |refine A3 ?_ |((first |refine sR (fun K kp=>?_) |refine rX (id:=16) mixed [1] 24 [0,1,2,3,4,5,6,7,8,9,10,11,12,13,14,15,16,17,18,19,20,21,22,23] (fun _ _ K kp=>?_) |refine cR tc ?_ |refine cR p0 ?_ |refine cR bc ?_);simp -implicitDefEqProofs (maxSteps:=2000000) (disch:=omega) only[go_sem,AI,hk];(repeat' (refine K _ ?_;clear K kp))) |refine A2 rfl ?_ |refine A1 rfl ?_ |refine A5 ?_));(refine rJ results42 ?_;refine eN hE ?_;simp[A8,ren,renL,CR hh hp hb])
   ·rw[hb,hS] at bc
    simp only[AI,hk,List.map_nil] at bc;have bc:=bc.weak (xs:=[.agg [.r (.int .i64 4),.r (.string s.tab),.ro true 2 (s.cols.map eC),.ro true 3 (s.row.map eV),.ro true 1 (s.names.map BK),.r (.bool s.count),.ro true 5 (s.wh.map eO),.r (.string s.ord),.r (.bool s.down),.r (.int .i64 s.lim),.r (.string s.set),.ro true 5 (s.to.map eO)],.agg [.r (.int .i64 4),.r (.string s.tab),.r (.slice none 0 0),.r (.slice none 0 0),.ro true 1 (s.names.map BK),.r (.bool s.count),.ro true 5 (s.wh.map eO),.r (.string s.ord),.r (.bool s.down),.r (.int .i64 s.lim),.r (.string b0),.r (.slice none 0 0)]]) (by simp[Gb,wk]);(repeat' (first |refine A0 ?_ |refine A4 ?_ |refine A3 ?_ |((first |refine sR (fun K kp=>?_) |refine rX (id:=16) mixed [1] 24 [0,1,2,3,4,5,6,7,8,9,10,11,12,13,14,15,16,17,18,19,20,21,22,23] (fun _ _ K kp=>?_) |refine cR tc ?_ |refine cR p0 ?_ |refine cR bc ?_);simp -implicitDefEqProofs (maxSteps:=2000000) (disch:=omega) only[go_sem,AI,hk];(repeat' (refine K _ ?_;clear K kp))) |refine A2 rfl ?_ |refine A1 rfl ?_ |refine A5 ?_));(refine rJ results42 ?_;refine eN hE ?_;simp[A8,ren,renL,D3 hh hp hb])
  ·have y0:(B5 s==0)=false:=by simpa using z0
   have hp:AR s=B5 s:=by simp[AR,hk,z0]
   (repeat' (first |refine A0 ?_ |refine A4 ?_ |refine A3 ?_ |((first |refine sR (fun K kp=>?_) |refine rX (id:=16) mixed [1] 24 [0,1,2,3,4,5,6,7,8,9,10,11,12,13,14,15,16,17,18,19,20,21,22,23] (fun _ _ K kp=>?_) |refine cR tc ?_ |refine cR p0 ?_);simp -implicitDefEqProofs (maxSteps:=2000000) (disch:=omega) only[go_sem,AI,hk,y0];(repeat' (refine K _ ?_;clear K kp))) |refine A2 rfl ?_ |refine A1 rfl ?_ |refine A5 ?_));(refine rJ results42 ?_;refine eN hE ?_;simp[A8,ren,renL,BT hh (hp▸z0),hp])
 ·have bn:(AH s.tab !=0)=true:=by simpa using hn
  (repeat' (first |refine A0 ?_ |((first |refine sR (fun K kp=>?_) |refine cR tc ?_);simp -implicitDefEqProofs (maxSteps:=2000000) (disch:=omega) only[go_sem,AI,hk,bn];(repeat' (refine K _ ?_;clear K kp))) |refine A2 rfl ?_ |refine A5 ?_));(refine rJ results42 ?_;refine eN hE ?_;simp[A8,ren,renL,CQ (show s.k<7 by omega) hn])
theorem SA {G:GL}(T:Tabs G)(s:ST)(o:okST s)(hk:s.k=5):Con prog G 42 [.agg (AI s)] [] 0 (Is (.r (.int .i64 (Bt s))) [] 0) No:=by
 refine cJ func42 fun E hG hE=>?_;subst hG;simp only[AX];have tc:=C_ T s.tab o.tab
 by_cases hn:AH s.tab=0
 ·rw[hn] at tc
  have hh: ¬(s.k<7/\AH s.tab≠0):=fun h=>h.2 hn;have p0:=C_ T s.set o.set
  by_cases z0:AH s.set=0
  ·rw[z0] at p0
   have p1:=F6 T true s.to o.lt o.to
   by_cases z1:AZ s.to=0
   ·rw[z1] at p1
    have p2:=JW T true s.wh o.lw o.wh
    by_cases z2:B7 s.wh=0
    ·rw[z2] at p2
     have hp:AR s=0:=by simp[AR,hk,z0,z1,z2]
     have hS:D0 s=⟨5,s.tab,[],[],[],false,s.wh,b0,false,-1,s.set,s.to⟩:=by simp[D0,hk]
     have bc:=FF E.G s (D0 s);cases hb:CT s (D0 s)
     ·rw[hb,hS] at bc
      simp only[AI,hk,List.map_nil] at bc;have bc:=bc.weak (xs:=[.agg [.r (.int .i64 5),.r (.string s.tab),.ro true 2 (s.cols.map eC),.ro true 3 (s.row.map eV),.ro true 1 (s.names.map BK),.r (.bool s.count),.ro true 5 (s.wh.map eO),.r (.string s.ord),.r (.bool s.down),.r (.int .i64 s.lim),.r (.string s.set),.ro true 5 (s.to.map eO)],.agg [.r (.int .i64 5),.r (.string s.tab),.r (.slice none 0 0),.r (.slice none 0 0),.r (.slice none 0 0),.r (.bool false),.ro true 5 (s.wh.map eO),.r (.string b0),.r (.bool false),.r (.int .i64 (-1)),.r (.string s.set),.ro true 5 (s.to.map eO)]]) (by simp[Gb,wk]);(repeat' (first |refine A0 ?_ |refine A4 ?_ |refine A3 ?_ |((first |refine sR (fun K kp=>?_) |refine rX (id:=19) mixed [1] 12 [0,1,2,3,4,5,6,7,8,9,10,11] (fun _ _ K kp=>?_) |refine cR tc ?_ |refine cR p0 ?_ |refine cR p1 ?_ |refine cR p2 ?_ |refine cR bc ?_);simp -implicitDefEqProofs (maxSteps:=2000000) (disch:=omega) only[go_sem,AI,hk];(repeat' (refine K _ ?_;clear K kp))) |refine A2 rfl ?_ |refine A1 rfl ?_ |refine A5 ?_));(refine rJ results42 ?_;refine eN hE ?_;simp[A8,ren,renL,CR hh hp hb])
     ·rw[hb,hS] at bc
      simp only[AI,hk,List.map_nil] at bc;have bc:=bc.weak (xs:=[.agg [.r (.int .i64 5),.r (.string s.tab),.ro true 2 (s.cols.map eC),.ro true 3 (s.row.map eV),.ro true 1 (s.names.map BK),.r (.bool s.count),.ro true 5 (s.wh.map eO),.r (.string s.ord),.r (.bool s.down),.r (.int .i64 s.lim),.r (.string s.set),.ro true 5 (s.to.map eO)],.agg [.r (.int .i64 5),.r (.string s.tab),.r (.slice none 0 0),.r (.slice none 0 0),.r (.slice none 0 0),.r (.bool false),.ro true 5 (s.wh.map eO),.r (.string b0),.r (.bool false),.r (.int .i64 (-1)),.r (.string s.set),.ro true 5 (s.to.map eO)]]) (by simp[Gb,wk]);(repeat' (first |refine A0 ?_ |refine A4 ?_ |refine A3 ?_ |((first |refine sR (fun K kp=>?_) |refine rX (id:=19) mixed [1] 12 [0,1,2,3,4,5,6,7,8,9,10,11] (fun _ _ K kp=>?_) |refine cR tc ?_ |refine cR p0 ?_ |refine cR p1 ?_ |refine cR p2 ?_ |refine cR bc ?_);simp -implicitDefEqProofs (maxSteps:=2000000) (disch:=omega) only[go_sem,AI,hk];(repeat' (refine K _ ?_;clear K kp))) |refine A2 rfl ?_ |refine A1 rfl ?_ |refine A5 ?_));(refine rJ results42 ?_;refine eN hE ?_;simp[A8,ren,renL,D3 hh hp hb])
    ·have y2:(B7 s.wh==0)=false:=by simpa using z2
     have hp:AR s=B7 s.wh:=by simp[AR,hk,z0,z1,z2]
     (repeat' (first |refine A0 ?_ |refine A4 ?_ |refine A3 ?_ |((first |refine sR (fun K kp=>?_) |refine rX (id:=19) mixed [1] 12 [0,1,2,3,4,5,6,7,8,9,10,11] (fun _ _ K kp=>?_) |refine cR tc ?_ |refine cR p0 ?_ |refine cR p1 ?_ |refine cR p2 ?_);simp -implicitDefEqProofs (maxSteps:=2000000) (disch:=omega) only[go_sem,AI,hk,y2];(repeat' (refine K _ ?_;clear K kp))) |refine A2 rfl ?_ |refine A1 rfl ?_ |refine A5 ?_));(refine rJ results42 ?_;refine eN hE ?_;simp[A8,ren,renL,BT hh (hp▸z2),hp])
   ·have y1:(AZ s.to==0)=false:=by simpa using z1
    have hp:AR s=AZ s.to:=by simp[AR,hk,z0,z1]
    (repeat' (first |refine A0 ?_ |refine A4 ?_ |refine A3 ?_ |((first |refine sR (fun K kp=>?_) |refine rX (id:=19) mixed [1] 12 [0,1,2,3,4,5,6,7,8,9,10,11] (fun _ _ K kp=>?_) |refine cR tc ?_ |refine cR p0 ?_ |refine cR p1 ?_);simp -implicitDefEqProofs (maxSteps:=2000000) (disch:=omega) only[go_sem,AI,hk,y1];(repeat' (refine K _ ?_;clear K kp))) |refine A2 rfl ?_ |refine A1 rfl ?_ |refine A5 ?_));(refine rJ results42 ?_;refine eN hE ?_;simp[A8,ren,renL,BT hh (hp▸z1),hp])
  ·have y0:(AH s.set==0)=false:=by simpa using z0
   have hp:AR s=AH s.set:=by simp[AR,hk,z0]
   (repeat' (first |refine A0 ?_ |refine A4 ?_ |refine A3 ?_ |((first |refine sR (fun K kp=>?_) |refine rX (id:=19) mixed [1] 12 [0,1,2,3,4,5,6,7,8,9,10,11] (fun _ _ K kp=>?_) |refine cR tc ?_ |refine cR p0 ?_);simp -implicitDefEqProofs (maxSteps:=2000000) (disch:=omega) only[go_sem,AI,hk,y0];(repeat' (refine K _ ?_;clear K kp))) |refine A2 rfl ?_ |refine A1 rfl ?_ |refine A5 ?_));(refine rJ results42 ?_;refine eN hE ?_;simp[A8,ren,renL,BT hh (hp▸z0),hp])
 ·have bn:(AH s.tab !=0)=true:=by simpa using hn
  (repeat' (first |refine A0 ?_ |((first |refine sR (fun K kp=>?_) |refine cR tc ?_);simp -implicitDefEqProofs (maxSteps:=2000000) (disch:=omega) only[go_sem,AI,hk,bn];(repeat' (refine K _ ?_;clear K kp))) |refine A2 rfl ?_ |refine A5 ?_));(refine rJ results42 ?_;refine eN hE ?_;simp[A8,ren,renL,CQ (show s.k<7 by omega) hn])
theorem S9 {G:GL}(T:Tabs G)(s:ST)(o:okST s)(hk:s.k=6):Con prog G 42 [.agg (AI s)] [] 0 (Is (.r (.int .i64 (Bt s))) [] 0) No:=by
 refine cJ func42 fun E hG hE=>?_;subst hG;simp only[AX];have tc:=C_ T s.tab o.tab
 by_cases hn:AH s.tab=0
 ·rw[hn] at tc
  have hh: ¬(s.k<7/\AH s.tab≠0):=fun h=>h.2 hn;have p0:=JW T true s.wh o.lw o.wh
  by_cases z0:B7 s.wh=0
  ·rw[z0] at p0
   have hp:AR s=0:=by simp[AR,hk,z0]
   have hS:D0 s=⟨6,s.tab,[],[],[],false,s.wh,b0,false,-1,b0,[]⟩:=by simp[D0,hk]
   have bc:=FF E.G s (D0 s);cases hb:CT s (D0 s)
   ·rw[hb,hS] at bc
    simp only[AI,hk,List.map_nil] at bc;have bc:=bc.weak (xs:=[.agg [.r (.int .i64 6),.r (.string s.tab),.ro true 2 (s.cols.map eC),.ro true 3 (s.row.map eV),.ro true 1 (s.names.map BK),.r (.bool s.count),.ro true 5 (s.wh.map eO),.r (.string s.ord),.r (.bool s.down),.r (.int .i64 s.lim),.r (.string s.set),.ro true 5 (s.to.map eO)],.agg [.r (.int .i64 6),.r (.string s.tab),.r (.slice none 0 0),.r (.slice none 0 0),.r (.slice none 0 0),.r (.bool false),.ro true 5 (s.wh.map eO),.r (.string b0),.r (.bool false),.r (.int .i64 (-1)),.r (.string b0),.r (.slice none 0 0)]]) (by simp[Gb,wk]);(repeat' (first |refine A0 ?_ |refine A4 ?_ |refine A3 ?_ |((first |refine sR (fun K kp=>?_) |refine cR tc ?_ |refine cR p0 ?_ |refine cR bc ?_);simp -implicitDefEqProofs (maxSteps:=2000000) (disch:=omega) only[go_sem,AI,hk];(repeat' (refine K _ ?_;clear K kp))) |refine A2 rfl ?_ |refine A1 rfl ?_ |refine A5 ?_));(refine rJ results42 ?_;refine eN hE ?_;simp[A8,ren,renL,CR hh hp hb])
   ·rw[hb,hS] at bc
    simp only[AI,hk,List.map_nil] at bc;have bc:=bc.weak (xs:=[.agg [.r (.int .i64 6),.r (.string s.tab),.ro true 2 (s.cols.map eC),.ro true 3 (s.row.map eV),.ro true 1 (s.names.map BK),.r (.bool s.count),.ro true 5 (s.wh.map eO),.r (.string s.ord),.r (.bool s.down),.r (.int .i64 s.lim),.r (.string s.set),.ro true 5 (s.to.map eO)],.agg [.r (.int .i64 6),.r (.string s.tab),.r (.slice none 0 0),.r (.slice none 0 0),.r (.slice none 0 0),.r (.bool false),.ro true 5 (s.wh.map eO),.r (.string b0),.r (.bool false),.r (.int .i64 (-1)),.r (.string b0),.r (.slice none 0 0)]]) (by simp[Gb,wk]);(repeat' (first |refine A0 ?_ |refine A4 ?_ |refine A3 ?_ |((first |refine sR (fun K kp=>?_) |refine cR tc ?_ |refine cR p0 ?_ |refine cR bc ?_);simp -implicitDefEqProofs (maxSteps:=2000000) (disch:=omega) only[go_sem,AI,hk];(repeat' (refine K _ ?_;clear K kp))) |refine A2 rfl ?_ |refine A1 rfl ?_ |refine A5 ?_));(refine rJ results42 ?_;refine eN hE ?_;simp[A8,ren,renL,D3 hh hp hb])
  ·have y0:(B7 s.wh==0)=false:=by simpa using z0
   have hp:AR s=B7 s.wh:=by simp[AR,hk,z0]
   (repeat' (first |refine A0 ?_ |refine A4 ?_ |refine A3 ?_ |((first |refine sR (fun K kp=>?_) |refine cR tc ?_ |refine cR p0 ?_);simp -implicitDefEqProofs (maxSteps:=2000000) (disch:=omega) only[go_sem,AI,hk,y0];(repeat' (refine K _ ?_;clear K kp))) |refine A2 rfl ?_ |refine A1 rfl ?_ |refine A5 ?_));(refine rJ results42 ?_;refine eN hE ?_;simp[A8,ren,renL,BT hh (hp▸z0),hp])
 ·have bn:(AH s.tab !=0)=true:=by simpa using hn
  (repeat' (first |refine A0 ?_ |((first |refine sR (fun K kp=>?_) |refine cR tc ?_);simp -implicitDefEqProofs (maxSteps:=2000000) (disch:=omega) only[go_sem,AI,hk,bn];(repeat' (refine K _ ?_;clear K kp))) |refine A2 rfl ?_ |refine A5 ?_));(refine rJ results42 ?_;refine eN hE ?_;simp[A8,ren,renL,CQ (show s.k<7 by omega) hn])
theorem S8 {G:GL}(T:Tabs G)(s:ST)(o:okST s)(hk:7≤s.k):Con prog G 42 [.agg (AI s)] [] 0 (Is (.r (.int .i64 (Bt s))) [] 0) No:=by
 refine cJ func42 fun E hG hE=>?_;subst hG;simp only[AX];have d7:decide (s.k<7)=false:=aC (by omega)
 have e1:(s.k==1)=false:=by simp;omega
 have e3:(s.k==3)=false:=by simp;omega
 have e4:(s.k==4)=false:=by simp;omega
 have e5:(s.k==5)=false:=by simp;omega
 have e6:(s.k==6)=false:=by simp;omega
 have hh: ¬(s.k<7/\AH s.tab≠0):=fun h=>by omega
 have hp:AR s=0:=by rw[AR,if_neg (by omega),if_neg (by omega),if_neg (by omega),if_neg (by omega),if_neg (by omega)]
 have hS:D0 s=⟨s.k,b0,[],[],[],false,[],b0,false,-1,b0,[]⟩:=by rw[D0,if_neg (by omega),if_neg (by omega),if_neg (by omega),if_neg (by omega),if_neg (by omega),if_neg (by omega)]
 have bc:=FF E.G s (D0 s);cases hb:CT s (D0 s)
 ·rw[hb,hS] at bc
  simp only[AI,List.map_nil] at bc;have bc:=bc.weak (xs:=[.agg [.r (.int .i64 s.k),.r (.string s.tab),.ro true 2 (s.cols.map eC),.ro true 3 (s.row.map eV),.ro true 1 (s.names.map BK),.r (.bool s.count),.ro true 5 (s.wh.map eO),.r (.string s.ord),.r (.bool s.down),.r (.int .i64 s.lim),.r (.string s.set),.ro true 5 (s.to.map eO)],.agg [.r (.int .i64 s.k),.r (.string b0),.r (.slice none 0 0),.r (.slice none 0 0),.r (.slice none 0 0),.r (.bool false),.r (.slice none 0 0),.r (.string b0),.r (.bool false),.r (.int .i64 (-1)),.r (.string b0),.r (.slice none 0 0)]]) (by simp[Gb,wk]);(repeat' (first |refine A0 ?_ |refine A4 ?_ |refine A3 ?_ |((first |refine sR (fun K kp=>?_) |refine cR bc ?_);simp -implicitDefEqProofs (maxSteps:=2000000) (disch:=omega) only[go_sem,AI,d7,e1,e3,e4,e5,e6];(repeat' (refine K _ ?_;clear K kp))) |refine A2 rfl ?_ |refine A1 rfl ?_ |refine A5 ?_));(refine rJ results42 ?_;refine eN hE ?_;simp[A8,ren,renL,CR hh hp hb])
 ·rw[hb,hS] at bc
  simp only[AI,List.map_nil] at bc;have bc:=bc.weak (xs:=[.agg [.r (.int .i64 s.k),.r (.string s.tab),.ro true 2 (s.cols.map eC),.ro true 3 (s.row.map eV),.ro true 1 (s.names.map BK),.r (.bool s.count),.ro true 5 (s.wh.map eO),.r (.string s.ord),.r (.bool s.down),.r (.int .i64 s.lim),.r (.string s.set),.ro true 5 (s.to.map eO)],.agg [.r (.int .i64 s.k),.r (.string b0),.r (.slice none 0 0),.r (.slice none 0 0),.r (.slice none 0 0),.r (.bool false),.r (.slice none 0 0),.r (.string b0),.r (.bool false),.r (.int .i64 (-1)),.r (.string b0),.r (.slice none 0 0)]]) (by simp[Gb,wk]);(repeat' (first |refine A0 ?_ |refine A4 ?_ |refine A3 ?_ |((first |refine sR (fun K kp=>?_) |refine cR bc ?_);simp -implicitDefEqProofs (maxSteps:=2000000) (disch:=omega) only[go_sem,AI,d7,e1,e3,e4,e5,e6];(repeat' (refine K _ ?_;clear K kp))) |refine A1 rfl ?_ |refine A5 ?_));(refine rJ results42 ?_;refine eN hE ?_;simp[A8,ren,renL,D3 hh hp hb])
theorem Uf {G:GL}(T:Tabs G)(s:ST)(o:okST s)(h1:1≤s.k):Con prog G 42 [.agg (AI s)] [] 0 (Is (.r (.int .i64 (Bt s))) [] 0) No:=by
 by_cases h7:7≤s.k
 ·exact S8 T s o h7
 obtain h |h |h |h |h |h:s.k=1\/s.k=2\/s.k=3\/s.k=4\/s.k=5\/s.k=6:=by omega
 ·exact Mm T s o h
 ·exact SD T s o h
 ·exact SC T s o h
 ·exact SB T s o h
 ·exact SA T s o h
 ·exact S9 T s o h
theorem Uc (G:List (Nat×List Value))(t:Bool)(l:List CO)(hl:l.length≤1048576):Con prog G 24 [.ro t 2 (l.map eC)] [] 0 (Is (.ro true 2 (l.map eC)) [] 0) No:=by
 refine cJ func24 fun E hG hE=>?_;subst hG;simp only[AX];(repeat' (first |refine A0 ?_ |((refine sR (fun K kp=>?_));simp -implicitDefEqProofs (disch:=omega) only[go_sem];(repeat' (first |(refine K _ ?_;clear K kp) |(with_reducible refine And.intro ?_ ?_) |omega))) |refine A5 ?_));(refine rJ results24 ?_;refine AG (by simp only[A8];simp -implicitDefEqProofs (disch:=omega) only[go_sem];rfl) ?_;refine(AE hE (by simp) ?_).s;simp[A8,ren,renL])
theorem PI (G:List (Nat×List Value))(t:Bool)(l:List V)(hl:l.length≤1048576):Con prog G 25 [.ro t 3 (l.map eV)] [] 0 (Is (.ro true 3 (l.map eV)) [] 0) No:=by
 refine cJ func25 fun E hG hE=>?_;subst hG;simp only[AX];(repeat' (first |refine A0 ?_ |((refine sR (fun K kp=>?_));simp -implicitDefEqProofs (disch:=omega) only[go_sem];(repeat' (first |(refine K _ ?_;clear K kp) |(with_reducible refine And.intro ?_ ?_) |omega))) |refine A5 ?_));(refine rJ results25 ?_;refine AG (by simp only[A8];simp -implicitDefEqProofs (disch:=omega) only[go_sem];rfl) ?_;refine(AE hE (by simp) ?_).s;simp[A8,ren,renL])
@[simp] theorem Yr (a:OP):(∀x,x ∈ eO a->PT x)=True:=aK (by intro x hx;simp[eO] at hx;rcases hx with rfl |rfl |rfl |rfl |rfl<;>exact .r _)
instance:PTf eO:=⟨fun a=>of_eq_true (Yr a)⟩
theorem Po (G:List (Nat×List Value))(t:Bool)(l:List OP)(hl:l.length≤1048576):Con prog G 26 [.ro t 5 (l.map eO)] [] 0 (Is (.ro true 5 (l.map eO)) [] 0) No:=by
 refine cJ func26 fun E hG hE=>?_;subst hG;simp only[AX];(repeat' (first |refine A0 ?_ |((refine sR (fun K kp=>?_));simp -implicitDefEqProofs (disch:=omega) only[go_sem];(repeat' (first |(refine K _ ?_;clear K kp) |(with_reducible refine And.intro ?_ ?_) |omega))) |refine A5 ?_));(refine rJ results26 ?_;refine AG (by simp only[A8];simp -implicitDefEqProofs (disch:=omega) only[go_sem];rfl) ?_;refine(AE hE (by simp) ?_).s;simp[A8,ren,renL])
end Go.AM
namespace Go.Proofs.YtmohnlbeiaifhaaGreatDoor
open Go.RowKit Go.AM
theorem Mn:Tryz.prog.cellsOf 139=5:=by kernel_rfl
end Go.Proofs.YtmohnlbeiaifhaaGreatDoor
namespace Go.AM
open Go Go.RowKit
open Go.Proofs.YtmohnlbeiaifhaaGreatDoor (OP AH Bc AZ BM B4 StrsAt str Ks FI EL digB bt)
attribute [local irreducible] AWP DU
theorem A0d {l:List CO}(hl:l.length≤1048576)(hs: ∀c ∈ l,FG c.nm):okST (s0 l):=by
 have h0:FG (str []):=by rw[FG,Aq];simp
 exact⟨by rw[FG,s0,Aq];simp[Go.maxLen],hs,by simp[s0],by simp[s0],by simp[s0],h0,h0,by simp[s0],hl,by simp[s0],by simp[s0],by simp[s0],by simp[s0]⟩
theorem WD (l:List CO):Bt (s0 l)=Ag l:=by
 have hh: ¬((s0 l).k<7/\AH (s0 l).tab≠0):=fun h=>h.2 RZ
 have hp:AR (s0 l)=Ag l:=by rw[AR,if_pos (show(s0 l).k=1 from rfl)];rfl
 by_cases hc:Ag l=0
 ·rw[D3 hh (hp.trans hc) (by simp[CT,D0,s0,b0,str]),hc]
 ·rw[BT hh (by rw[hp];exact hc),hp]
theorem Kl {G:GL}(T:Tabs G)(l:List CO)(hl:l.length≤1048576)(hs: ∀c ∈ l,FG c.nm):Con prog G 12 [.agg (AI (s0 l))] [] 0 (Is (.r (.int .i64 (Ag l))) [] 0) No:=by
 refine cJ func12 fun E hG hE=>?_;subst hG;simp only[AX];have cc:=Mm T (s0 l) (A0d hl hs) rfl;rw[WD] at cc;simp only[AI,s0,List.map_nil] at cc
 by_cases hc:Ag l=0
 ·rw[hc] at cc ⊢
  obtain⟨c1,c6,cg⟩:=Mi hc;have sc:=NX T (s0 l) rfl c6 (fun c h=>(cg c h).1);have hlen:=Mg c6;generalize D2 (s0 l)=ct at sc hlen;simp only[AI,s0,List.map_nil] at sc;have d1:decide ((ct.length:Int)>100)=false:=aC (by omega);(repeat' (first |refine A0 ?_ |refine A3 ?_ |((first |refine sR (fun K kp=>?_) |refine cR cc ?_ |refine cR sc ?_);simp -implicitDefEqProofs (disch:=omega) only[go_sem,AI,s0,d1];(repeat' (refine K _ ?_;clear K kp))) |refine A1 rfl ?_ |refine A5 ?_));(refine rJ results12 ?_;exact eQ hE)
 ·have b1:(Ag l !=0)=true:=by simpa using hc
  (repeat' (first |refine A0 ?_ |refine A3 ?_ |((first |refine sR (fun K kp=>?_) |refine cR cc ?_);simp -implicitDefEqProofs (disch:=omega) only[go_sem,AI,s0,b1];(repeat' (refine K _ ?_;clear K kp))) |refine A2 rfl ?_ |refine A1 rfl ?_ |refine A5 ?_));(refine rJ results12 ?_;exact eQ hE)
theorem Rw (G:GL)(l:List CO)(hl:l.length≤1048576)(hs: ∀c ∈ l,FG c.nm):Con prog G 28 [.agg (AI (s0 l))] [] 0 (Is (.r (.int .i64 (Ag l))) [] 0) No:=by
 refine cJ func28 fun E hG hE=>?_;subst hG;simp only[AX];have ic:=MH E.G 1 1 9;rw[MG (by omega) (by omega)] at ic;have nc:=CB E.G (str [116]) (by rw[FG,Aq];simp[Go.maxLen]);rw[RZ] at nc;have pc:=Lu E.G (s0 l) rfl hl hs;simp only[AI,s0,List.map_nil] at pc
 by_cases hc:Ag l=0
 ·rw[hc] at pc ⊢
  obtain⟨c1,c6,cg⟩:=Mi hc;have tc:=KC E.G (s0 l) rfl c6 cg (CV RZ);have hlen:=Mg c6;generalize D2 (s0 l)=ct at tc hlen;simp only[AI,s0,List.map_nil] at tc;have d1:decide ((ct.length:Int)>100)=false:=aC (by omega)
  have e0:((str []).toList==ByteArray.toList ⟨#[]⟩)=true:=by simp[str]
  (repeat' (first |refine A0 ?_ |refine A3 ?_ |((first |refine sR (fun K kp=>?_) |refine cR ic ?_ |refine cR nc ?_ |refine cR pc ?_ |refine cR tc ?_);simp -implicitDefEqProofs (disch:=omega) only[go_sem,AI,s0,d1,e0];(repeat' (refine K _ ?_;clear K kp))) |refine A2 rfl ?_ |refine A1 rfl ?_ |refine A5 ?_));(refine rJ results28 ?_;exact eQ hE)
 ·have b1:(Ag l !=0)=true:=by simpa using hc
  (repeat' (first |refine A0 ?_ |refine A3 ?_ |((first |refine sR (fun K kp=>?_) |refine cR ic ?_ |refine cR nc ?_ |refine cR pc ?_);simp -implicitDefEqProofs (disch:=omega) only[go_sem,AI,s0,b1];(repeat' (refine K _ ?_;clear K kp))) |refine A2 rfl ?_ |refine A1 rfl ?_ |refine A5 ?_));(refine rJ results28 ?_;exact eQ hE)
theorem Ea {G:GL}(T:Tabs G)(t:Bool)(l:List CO)(hl:l.length≤1048576)(hs: ∀c ∈ l,FG c.nm):Con prog G 46 [.ro true 2 (l.map eC)] [] 0 (Is (.r (.int .i64 (Ag l))) [] 0) No:=by
 refine cJ func46 fun E hG hE=>?_;subst hG;simp only[AX];have cc:=(Kl T l hl hs).weak (xs:=[.agg [.r (.int .i64 1),.r (.string (str [116])),.ro true 2 (l.map eC),.r (.slice none 0 0),.r (.slice none 0 0),.r (.bool false),.r (.slice none 0 0),.r (.string (str [])),.r (.bool false),.r (.int .i64 (-1)),.r (.string (str [])),.r (.slice none 0 0)]]) (by simp[Gb,wk,AI,s0]);(repeat' (first |refine A0 ?_ |((first |refine sR (fun K kp=>?_) |refine cR cc ?_);simp -implicitDefEqProofs (disch:=omega) only[go_sem];(repeat' (refine K _ ?_;clear K kp))) |refine A5 ?_));(refine rJ results46 ?_;exact eQ hE)
theorem E6 (G:GL)(l:List CO)(hl:l.length≤1048576)(hs: ∀c ∈ l,FG c.nm):Con prog G 64 [.ro true 2 (l.map eC)] [] 0 (Is (.r (.int .i64 (Ag l))) [] 0) No:=by
 refine cJ func64 fun E hG hE=>?_;subst hG;simp only[AX];have cc:=(Rw E.G l hl hs).weak (xs:=[.agg [.r (.int .i64 1),.r (.string (str [116])),.ro true 2 (l.map eC),.r (.slice none 0 0),.r (.slice none 0 0),.r (.bool false),.r (.slice none 0 0),.r (.string (str [])),.r (.bool false),.r (.int .i64 (-1)),.r (.string (str [])),.r (.slice none 0 0)]]) (by simp[Gb,wk,AI,s0]);(repeat' (first |refine A0 ?_ |((first |refine sR (fun K kp=>?_) |refine cR cc ?_);simp -implicitDefEqProofs (disch:=omega) only[go_sem];(repeat' (refine K _ ?_;clear K kp))) |refine A5 ?_));(refine rJ results64 ?_;exact eQ hE)
open Go.Proofs.YtmohnlbeiaifhaaGreatDoor (OP AH Bc AZ BM B4 StrsAt str Ks FI EL digB bt AW)
theorem Wl (G:GL)(v:V)(hs:FG v.s):Con prog G 50 [.agg (eV v)] [] 0 (Is (.r (.int .i64 (AW v.k v.n v.s))) [] 0) No:=
 Al (by kernel_rfl) (fun w z vs hz hr hG=>by
  obtain⟨u,r,rfl,h1,h2⟩:=hr.head;obtain rfl:=TH (us:=[.int .i64 v.k,.int .i64 v.n,.string v.s]) h1;obtain rfl:=h2.of_nil
  exact Go.Proofs.YtmohnlbeiaifhaaGreatDoor.Kt v.k v.n v.s w hs)
theorem LM (G:GL)(v:V)(hs:FG v.s):Con prog G 114 [.agg (eV v)] [] 0 (Is (.r (.int .i64 (AW v.k v.n v.s))) [] 0) No:=
 Al (by kernel_rfl) (fun w z vs hz hr hG=>by
  obtain⟨u,r,rfl,h1,h2⟩:=hr.head;obtain rfl:=TH (us:=[.int .i64 v.k,.int .i64 v.n,.string v.s]) h1;obtain rfl:=h2.of_nil
  exact Go.Proofs.YtmohnlbeiaifhaaGreatDoor.Fy v.k v.n v.s w hs)
def Ff:Bool->List CO->List V->Int
 |_,_,[]=>0
 |_,[],_::_=>0
 |f,c::cs,v::vs=>if AW v.k v.n v.s≠0 then AW v.k v.n v.s else if v.k≠c.k/\(f=true\/v.k≠0) then 4 else Ff false cs vs
def Bb (l:List CO)(r:List V):Int:=if Ag l≠0 then Ag l else if r.length≠l.length then 1 else Ff true l r
theorem IF {l:List CO}{r:List V}{k:Nat}{c:CO}{v:V}(hc:l[k]?=some c)(hv:r[k]?=some v):Ff (decide (k=0)) (l.drop k) (r.drop k)=
  if AW v.k v.n v.s≠0 then AW v.k v.n v.s else if v.k≠c.k/\(k=0\/v.k≠0) then 4 else Ff (decide (k+1=0)) (l.drop (k+1)) (r.drop (k+1)):=by
 rw[Am hc,Am hv,Ff];simp
theorem KX {G:GL}(T:Tabs G)(l:List CO)(r:List V)(hl:l.length≤1048576)(hr:r.length≤1048576)(hs: ∀c ∈ l,FG c.nm)(hv: ∀v ∈ r,FG v.s):Con prog G 44 [.ro true 2 (l.map eC),.ro true 3 (r.map eV)] [] 0 (Is (.r (.int .i64 (Bb l r))) [] 0) No:=by
 refine cJ func44 fun E hG hE=>?_;subst hG;simp only[AX];have cc:=Ea T true l hl hs
 by_cases h0:Ag l=0
 ·rw[h0] at cc
  by_cases hlen:r.length=l.length
  ·have d1:((r.length:Int) !=(l.length:Int))=false:=by simp[hlen]
   have hM:Bb l r=Ff true l r:=by rw[Bb,if_neg (by simpa using h0),if_neg (by simpa using hlen)]
   rw[hM];(repeat' (first |refine A0 ?_ |refine A4 ?_ |refine A3 ?_ |((first |refine sR (fun K kp=>?_) |refine cR cc ?_);simp(disch:=omega) only[go_sem,d1];(repeat' (refine K _ ?_;clear K kp))) |refine A1 rfl ?_));refine AB (fun k:Nat=>⟨[(21,.r (.int .i64 k)),(20,.r (.int .i64 r.length)),(19,.ro true 3 (r.map eV)),(0,.ro true 2 (l.map eC))],[],0⟩) (fun k=>k≤r.length/\Ff (decide (k=0)) (l.drop k) (r.drop k)=Ff true l r) (fun k=>r.length - k) 0 ?_ ?_ ?_
   ·simp
   ·(exact iK hE [])
   intro k ⟨hk,hno⟩
   by_cases hlt:k<r.length
   ·obtain⟨v,hx⟩: ∃x,r[k]?=some x:=⟨r[k],by simp[hlt]⟩
    obtain⟨c,hc⟩: ∃x,l[k]?=some x:=⟨l[k]'(by omega),by simp⟩;rw[IF hc hx] at hno;have vc:=Wl E.G v (hv v (aB hx));simp only[eV] at vc
    by_cases hvc:AW v.k v.n v.s=0
    ·rw[if_neg (by simpa using hvc)] at hno
     rw[hvc] at vc
     by_cases hkk:v.k=c.k
     ·have n1:(v.k !=c.k)=false:=by simp[hkk]
      rw[if_neg (by simp[hkk])] at hno;(repeat' (first |refine A0 ?_ |refine A4 ?_ |refine A3 ?_ |((first |refine sR (fun K kp=>?_) |refine sI (id:=12) mixed 17 (fun K kp=>?_) |refine cR vc ?_);simp(disch:=omega) only[go_sem,hx,hc,eV,eC,n1];(repeat' (refine K _ ?_;clear K kp))) |refine A1 rfl ?_ |((refine A6 rfl (fun h=>?_) (fun h=>?_)<;>try simp only[Af] at h)<;>(try (exfalso;omega)))));(refine BF (k+1) ?_ (iK hE []));exact⟨by omega,hno⟩
     ·have n1:(v.k !=c.k)=true:=by simp[hkk]
      by_cases hk0:k=0
      ·have n2:((k:Int)==0)=true:=by simp[hk0]
       rw[if_pos ⟨hkk,.inl hk0⟩] at hno;(repeat' (first |refine A0 ?_ |refine A4 ?_ |refine A3 ?_ |((first |refine sR (fun K kp=>?_) |refine sI (id:=12) mixed 17 (fun K kp=>?_) |refine cR vc ?_);simp(disch:=omega) only[go_sem,hx,hc,eV,eC,n1,n2];(repeat' (refine K _ ?_;clear K kp))) |refine A2 rfl ?_ |refine A1 rfl ?_ |((refine A6 rfl (fun h=>?_) (fun h=>?_)<;>try simp only[Af] at h)<;>(try (exfalso;omega))) |refine A5 ?_));(refine rJ results44 ?_;refine eN hE ?_;simp[A8,ren,renL]);exact hno
      ·have n2:((k:Int)==0)=false:=by simp[hk0]
       by_cases hv0:v.k=0
       ·have n3:(v.k !=0)=false:=by simp[hv0]
        rw[if_neg (by simp[hv0,hk0])] at hno;(repeat' (first |refine A0 ?_ |refine A4 ?_ |refine A3 ?_ |((first |refine sR (fun K kp=>?_) |refine sI (id:=12) mixed 17 (fun K kp=>?_) |refine cR vc ?_);simp(disch:=omega) only[go_sem,hx,hc,eV,eC,n1,n2,n3];(repeat' (refine K _ ?_;clear K kp))) |refine A1 rfl ?_ |((refine A6 rfl (fun h=>?_) (fun h=>?_)<;>try simp only[Af] at h)<;>(try (exfalso;omega)))));(refine BF (k+1) ?_ (iK hE []));exact⟨by omega,hno⟩
       ·have n3:(v.k !=0)=true:=by simp[hv0]
        rw[if_pos ⟨hkk,.inr hv0⟩] at hno;(repeat' (first |refine A0 ?_ |refine A4 ?_ |refine A3 ?_ |((first |refine sR (fun K kp=>?_) |refine sI (id:=12) mixed 17 (fun K kp=>?_) |refine cR vc ?_);simp(disch:=omega) only[go_sem,hx,hc,eV,eC,n1,n2,n3];(repeat' (refine K _ ?_;clear K kp))) |refine A2 rfl ?_ |refine A1 rfl ?_ |((refine A6 rfl (fun h=>?_) (fun h=>?_)<;>try simp only[Af] at h)<;>(try (exfalso;omega))) |refine A5 ?_));(refine rJ results44 ?_;refine eN hE ?_;simp[A8,ren,renL]);exact hno
    ·have b1:(AW v.k v.n v.s !=0)=true:=by simpa using hvc
     rw[if_pos hvc] at hno;(repeat' (first |refine A0 ?_ |refine A4 ?_ |refine A3 ?_ |((first |refine sR (fun K kp=>?_) |refine cR vc ?_);simp(disch:=omega) only[go_sem,hx,hc,eV,eC,b1];(repeat' (refine K _ ?_;clear K kp))) |refine A2 rfl ?_ |((refine A6 rfl (fun h=>?_) (fun h=>?_)<;>try simp only[Af] at h)<;>(try (exfalso;omega))) |refine A5 ?_));(refine rJ results44 ?_;refine eN hE ?_;simp[A8,ren,renL]);exact hno
   ·(repeat' (first |refine A0 ?_ |refine A7 ?_ |((refine sR (fun K kp=>?_));simp(disch:=omega) only[go_sem];(repeat' (refine K _ ?_;clear K kp))) |((refine A6 rfl (fun h=>?_) (fun h=>?_)<;>try simp only[Af] at h)<;>(try (exfalso;omega))) |refine A5 ?_))
    (refine rJ results44 ?_;refine eN hE ?_;simp[A8,ren,renL])
    rw[<-hno,aR (l:=r) (by omega)];cases l.drop k<;>rfl
  ·have d1:((r.length:Int) !=(l.length:Int))=true:=by simp;omega
   have hM:Bb l r=1:=by rw[Bb,if_neg (by simpa using h0),if_pos hlen]
   rw[hM];(repeat' (first |refine A0 ?_ |refine A3 ?_ |((first |refine sR (fun K kp=>?_) |refine cR cc ?_);simp(disch:=omega) only[go_sem,d1];(repeat' (refine K _ ?_;clear K kp))) |refine A2 rfl ?_ |refine A1 rfl ?_ |refine A5 ?_));(refine rJ results44 ?_;exact eQ hE)
 ·have b0:(Ag l !=0)=true:=by simpa using h0
  have hM:Bb l r=Ag l:=by rw[Bb,if_pos h0]
  rw[hM];(repeat' (first |refine A0 ?_ |((first |refine sR (fun K kp=>?_) |refine cR cc ?_);simp(disch:=omega) only[go_sem,b0];(repeat' (refine K _ ?_;clear K kp))) |refine A2 rfl ?_ |refine A5 ?_));(refine rJ results44 ?_;exact eQ hE)
def rfI (l:List CO)(r:List V)(q:Nat×Int):Prop:=q.1≤r.length/\((q.2=0/\r.length=l.length/\Ff (decide (q.1=0)) (l.drop q.1) (r.drop q.1)=Bb l r)\/(q.2≠0/\q.2=Bb l r))
theorem Ii {G:GL}(l:List CO)(r:List V)(hl:l.length≤1048576)(hr:r.length≤1048576)(hs: ∀c ∈ l,FG c.nm)(hv: ∀v ∈ r,FG v.s):Con prog G 60 [.ro true 2 (l.map eC),.ro true 3 (r.map eV)] [] 0 (Is (.r (.int .i64 (Bb l r))) [] 0) No:=by
 refine cJ func60 fun E hG hE=>?_;subst hG;simp only[AX];have cc:=E6 E.G l hl hs
 by_cases h0:Ag l=0
 ·rw[h0] at cc
  by_cases hlen:r.length=l.length
  ·have d1:((r.length:Int) !=(l.length:Int))=false:=by simp[hlen]
   have hM:Bb l r=Ff true l r:=by rw[Bb,if_neg (by simpa using h0),if_neg (by simpa using hlen)]
   (repeat' (first |refine A0 ?_ |refine A4 ?_ |refine A3 ?_ |((first |refine sR (fun K kp=>?_) |refine cR cc ?_);simp(disch:=omega) only[go_sem,d1];(repeat' (refine K _ ?_;clear K kp))) |refine A1 rfl ?_));refine AB (fun q:Nat×Int=>⟨[(6,.r (.int .i64 q.1)),(5,.r (.int .i64 q.2)),(0,.ro true 2 (l.map eC)),(1,.ro true 3 (r.map eV))],[],0⟩) (rfI l r) (fun q=>r.length - q.1) (0,0) ?_ ?_ ?_
   ·exact⟨by simp,.inl ⟨rfl,hlen,by rw[hM];simp⟩⟩
   ·(exact iK hE [])
   rintro⟨k,e⟩ ⟨hk,he⟩;simp only at hk he ⊢
   by_cases he0:e=0
   ·subst he0
    obtain⟨_,hlen,hno⟩:(0:Int)=0/\r.length=l.length/\Ff (decide (k=0)) (l.drop k) (r.drop k)=Bb l r:=he.resolve_right (fun h=>h.1 rfl)
    by_cases hlt:k<r.length
    ·have dk:decide ((k:Int)<(r.length:Int))=true:=aE (by omega)
     obtain⟨v,hx⟩: ∃x,r[k]?=some x:=⟨r[k],by simp[hlt]⟩;obtain⟨c,hc⟩: ∃x,l[k]?=some x:=⟨l[k]'(by omega),by simp⟩;rw[IF hc hx] at hno;have vc:=LM E.G v (hv v (aB hx));simp only[eV] at vc
     by_cases hvc:AW v.k v.n v.s=0
     ·rw[if_neg (by simpa using hvc)] at hno
      rw[hvc] at vc
      by_cases hkk:v.k=c.k
      ·have n1:(v.k !=c.k)=false:=by simp[hkk]
       rw[if_neg (by simp[hkk])] at hno;(repeat' (first |refine A0 ?_ |refine A4 ?_ |refine A3 ?_ |((first |refine sR (fun K kp=>?_) |refine sI (id:=8) mixed 28 (fun K kp=>?_) |refine cR vc ?_);simp(disch:=omega) only[go_sem,hx,hc,eV,eC,n1,dk];(repeat' (refine K _ ?_;clear K kp))) |refine A2 rfl ?_ |refine A1 rfl ?_));(refine BF ((k+1,0)) ?_ (iK hE []));exact⟨by simp only;omega,.inl ⟨rfl,hlen,hno⟩⟩
      ·have n1:(v.k !=c.k)=true:=by simp[hkk]
       by_cases hk0:k=0
       ·have n2:decide ((k:Int)>0)=false:=aC (by omega)
        rw[if_pos ⟨hkk,.inl hk0⟩] at hno;(repeat' (first |refine A0 ?_ |refine A4 ?_ |refine A3 ?_ |((first |refine sR (fun K kp=>?_) |refine sI (id:=8) mixed 28 (fun K kp=>?_) |refine cR vc ?_);simp(disch:=omega) only[go_sem,hx,hc,eV,eC,n1,n2,dk];(repeat' (refine K _ ?_;clear K kp))) |refine A2 rfl ?_));(refine BF ((k+1,4)) ?_ (iK hE []));exact⟨by simp only;omega,.inr ⟨by simp,hno⟩⟩
       ·have n2:decide ((k:Int)>0)=true:=aE (by omega)
        by_cases hv0:v.k=0
        ·have n3:(v.k==0)=true:=by simp[hv0]
         rw[if_neg (by simp[hv0,hk0])] at hno;(repeat' (first |refine A0 ?_ |refine A4 ?_ |refine A3 ?_ |((first |refine sR (fun K kp=>?_) |refine sI (id:=8) mixed 28 (fun K kp=>?_) |refine cR vc ?_);simp(disch:=omega) only[go_sem,hx,hc,eV,eC,n1,n2,n3,dk];(repeat' (refine K _ ?_;clear K kp))) |refine A2 rfl ?_ |refine A1 rfl ?_));(refine BF ((k+1,0)) ?_ (iK hE []));exact⟨by simp only;omega,.inl ⟨rfl,hlen,hno⟩⟩
        ·have n3:(v.k==0)=false:=by simp[hv0]
         rw[if_pos ⟨hkk,.inr hv0⟩] at hno;(repeat' (first |refine A0 ?_ |refine A4 ?_ |refine A3 ?_ |((first |refine sR (fun K kp=>?_) |refine sI (id:=8) mixed 28 (fun K kp=>?_) |refine cR vc ?_);simp(disch:=omega) only[go_sem,hx,hc,eV,eC,n1,n2,n3,dk];(repeat' (refine K _ ?_;clear K kp))) |refine A2 rfl ?_));(refine BF ((k+1,4)) ?_ (iK hE []));exact⟨by simp only;omega,.inr ⟨by simp,hno⟩⟩
     ·have b1:(AW v.k v.n v.s==0)=false:=by simpa using hvc
      rw[if_pos hvc] at hno;(repeat' (first |refine A0 ?_ |refine A4 ?_ |refine A3 ?_ |((first |refine sR (fun K kp=>?_) |refine sI (id:=8) mixed 28 (fun K kp=>?_) |refine cR vc ?_);simp(disch:=omega) only[go_sem,hx,hc,eV,eC,b1,dk];(repeat' (refine K _ ?_;clear K kp))) |refine A2 rfl ?_ |refine A1 rfl ?_));(refine BF ((k+1,AW v.k v.n v.s)) ?_ (iK hE []));exact⟨by simp only;omega,.inr ⟨hvc,hno⟩⟩
    ·have dk:decide ((k:Int)<(r.length:Int))=false:=aC (by omega)
     (repeat' (first |refine A0 ?_ |refine A7 ?_ |((refine sR (fun K kp=>?_));simp(disch:=omega) only[go_sem,dk];(repeat' (refine K _ ?_;clear K kp))) |refine A1 rfl ?_ |refine A5 ?_));(refine rJ results60 ?_;refine eN hE ?_;simp[A8,ren,renL])
     rw[<-hno,aR (l:=r) (by omega)];cases l.drop k<;>rfl
   ·have hno:e=Bb l r:=(he.resolve_left (fun h=>he0 h.1)).2
    have b1:(e==0)=false:=by simpa using he0
    by_cases hlt:k<r.length
    ·have dk:decide ((k:Int)<(r.length:Int))=true:=aE (by omega)
     (repeat' (first |refine A0 ?_ |refine A7 ?_ |((refine sR (fun K kp=>?_));simp(disch:=omega) only[go_sem,dk,b1];(repeat' (refine K _ ?_;clear K kp))) |refine A1 rfl ?_ |refine A5 ?_));(refine rJ results60 ?_;refine eN hE ?_;simp[A8,ren,renL]);exact hno
    ·have dk:decide ((k:Int)<(r.length:Int))=false:=aC (by omega)
     (repeat' (first |refine A0 ?_ |refine A7 ?_ |((refine sR (fun K kp=>?_));simp(disch:=omega) only[go_sem,dk];(repeat' (refine K _ ?_;clear K kp))) |refine A1 rfl ?_ |refine A5 ?_));(refine rJ results60 ?_;refine eN hE ?_;simp[A8,ren,renL]);exact hno
  ·have d1:((r.length:Int) !=(l.length:Int))=true:=by simp;omega
   have hM:Bb l r=1:=by rw[Bb,if_neg (by simpa using h0),if_pos hlen]
   (repeat' (first |refine A0 ?_ |refine A4 ?_ |((first |refine sR (fun K kp=>?_) |refine cR cc ?_);simp(disch:=omega) only[go_sem,d1];(repeat' (refine K _ ?_;clear K kp))) |refine A2 rfl ?_));refine AB (fun q:Nat×Int=>⟨[(6,.r (.int .i64 q.1)),(5,.r (.int .i64 q.2)),(0,.ro true 2 (l.map eC)),(1,.ro true 3 (r.map eV))],[],0⟩) (rfI l r) (fun q=>r.length - q.1) (0,1) ?_ ?_ ?_
   ·exact⟨by simp,.inr ⟨by decide,hM.symm⟩⟩
   ·(exact iK hE [])
   rintro⟨k,e⟩ ⟨hk,he⟩;simp only at hk he ⊢
   by_cases he0:e=0
   ·subst he0
    exact(hlen (he.resolve_right (fun h=>h.1 rfl)).2.1).elim
   ·have hno:e=Bb l r:=(he.resolve_left (fun h=>he0 h.1)).2
    have b1:(e==0)=false:=by simpa using he0
    by_cases hlt:k<r.length
    ·have dk:decide ((k:Int)<(r.length:Int))=true:=aE (by omega)
     (repeat' (first |refine A0 ?_ |refine A7 ?_ |((refine sR (fun K kp=>?_));simp(disch:=omega) only[go_sem,dk,b1];(repeat' (refine K _ ?_;clear K kp))) |refine A1 rfl ?_ |refine A5 ?_));(refine rJ results60 ?_;refine eN hE ?_;simp[A8,ren,renL]);exact hno
    ·have dk:decide ((k:Int)<(r.length:Int))=false:=aC (by omega)
     (repeat' (first |refine A0 ?_ |refine A7 ?_ |((refine sR (fun K kp=>?_));simp(disch:=omega) only[go_sem,dk];(repeat' (refine K _ ?_;clear K kp))) |refine A1 rfl ?_ |refine A5 ?_));(refine rJ results60 ?_;refine eN hE ?_;simp[A8,ren,renL]);exact hno
 ·have b0:(Ag l==0)=false:=by simpa using h0
  have hM:Bb l r=Ag l:=by rw[Bb,if_pos h0]
  (repeat' (first |refine A0 ?_ |refine A4 ?_ |refine A3 ?_ |((first |refine sR (fun K kp=>?_) |refine cR cc ?_);simp(disch:=omega) only[go_sem,b0];(repeat' (refine K _ ?_;clear K kp))) |refine A1 rfl ?_));refine AB (fun q:Nat×Int=>⟨[(6,.r (.int .i64 q.1)),(5,.r (.int .i64 q.2)),(0,.ro true 2 (l.map eC)),(1,.ro true 3 (r.map eV))],[],0⟩) (rfI l r) (fun q=>r.length - q.1) (0,Ag l) ?_ ?_ ?_
  ·exact⟨by simp,.inr ⟨h0,hM.symm⟩⟩
  ·(exact iK hE [])
  rintro⟨k,e⟩ ⟨hk,he⟩;simp only at hk he ⊢
  by_cases he0:e=0
  ·subst he0
   obtain⟨_,hlen,hno⟩:(0:Int)=0/\r.length=l.length/\Ff (decide (k=0)) (l.drop k) (r.drop k)=Bb l r:=he.resolve_right (fun h=>h.1 rfl)
   by_cases hlt:k<r.length
   ·have dk:decide ((k:Int)<(r.length:Int))=true:=aE (by omega)
    obtain⟨v,hx⟩: ∃x,r[k]?=some x:=⟨r[k],by simp[hlt]⟩;obtain⟨c,hc⟩: ∃x,l[k]?=some x:=⟨l[k]'(by omega),by simp⟩;rw[IF hc hx] at hno;have vc:=LM E.G v (hv v (aB hx));simp only[eV] at vc
    by_cases hvc:AW v.k v.n v.s=0
    ·rw[if_neg (by simpa using hvc)] at hno
     rw[hvc] at vc
     by_cases hkk:v.k=c.k
     ·have n1:(v.k !=c.k)=false:=by simp[hkk]
      rw[if_neg (by simp[hkk])] at hno;(repeat' (first |refine A0 ?_ |refine A4 ?_ |refine A3 ?_ |((first |refine sR (fun K kp=>?_) |refine sI (id:=8) mixed 28 (fun K kp=>?_) |refine cR vc ?_);simp(disch:=omega) only[go_sem,hx,hc,eV,eC,n1,dk];(repeat' (refine K _ ?_;clear K kp))) |refine A2 rfl ?_ |refine A1 rfl ?_));(refine BF ((k+1,0)) ?_ (iK hE []));exact⟨by simp only;omega,.inl ⟨rfl,hlen,hno⟩⟩
     ·have n1:(v.k !=c.k)=true:=by simp[hkk]
      by_cases hk0:k=0
      ·have n2:decide ((k:Int)>0)=false:=aC (by omega)
       rw[if_pos ⟨hkk,.inl hk0⟩] at hno;(repeat' (first |refine A0 ?_ |refine A4 ?_ |refine A3 ?_ |((first |refine sR (fun K kp=>?_) |refine sI (id:=8) mixed 28 (fun K kp=>?_) |refine cR vc ?_);simp(disch:=omega) only[go_sem,hx,hc,eV,eC,n1,n2,dk];(repeat' (refine K _ ?_;clear K kp))) |refine A2 rfl ?_));(refine BF ((k+1,4)) ?_ (iK hE []));exact⟨by simp only;omega,.inr ⟨by simp,hno⟩⟩
      ·have n2:decide ((k:Int)>0)=true:=aE (by omega)
       by_cases hv0:v.k=0
       ·have n3:(v.k==0)=true:=by simp[hv0]
        rw[if_neg (by simp[hv0,hk0])] at hno;(repeat' (first |refine A0 ?_ |refine A4 ?_ |refine A3 ?_ |((first |refine sR (fun K kp=>?_) |refine sI (id:=8) mixed 28 (fun K kp=>?_) |refine cR vc ?_);simp(disch:=omega) only[go_sem,hx,hc,eV,eC,n1,n2,n3,dk];(repeat' (refine K _ ?_;clear K kp))) |refine A2 rfl ?_ |refine A1 rfl ?_));(refine BF ((k+1,0)) ?_ (iK hE []));exact⟨by simp only;omega,.inl ⟨rfl,hlen,hno⟩⟩
       ·have n3:(v.k==0)=false:=by simp[hv0]
        rw[if_pos ⟨hkk,.inr hv0⟩] at hno;(repeat' (first |refine A0 ?_ |refine A4 ?_ |refine A3 ?_ |((first |refine sR (fun K kp=>?_) |refine sI (id:=8) mixed 28 (fun K kp=>?_) |refine cR vc ?_);simp(disch:=omega) only[go_sem,hx,hc,eV,eC,n1,n2,n3,dk];(repeat' (refine K _ ?_;clear K kp))) |refine A2 rfl ?_));(refine BF ((k+1,4)) ?_ (iK hE []));exact⟨by simp only;omega,.inr ⟨by simp,hno⟩⟩
    ·have b1:(AW v.k v.n v.s==0)=false:=by simpa using hvc
     rw[if_pos hvc] at hno;(repeat' (first |refine A0 ?_ |refine A4 ?_ |refine A3 ?_ |((first |refine sR (fun K kp=>?_) |refine sI (id:=8) mixed 28 (fun K kp=>?_) |refine cR vc ?_);simp(disch:=omega) only[go_sem,hx,hc,eV,eC,b1,dk];(repeat' (refine K _ ?_;clear K kp))) |refine A2 rfl ?_ |refine A1 rfl ?_));(refine BF ((k+1,AW v.k v.n v.s)) ?_ (iK hE []));exact⟨by simp only;omega,.inr ⟨hvc,hno⟩⟩
   ·have dk:decide ((k:Int)<(r.length:Int))=false:=aC (by omega)
    (repeat' (first |refine A0 ?_ |refine A7 ?_ |((refine sR (fun K kp=>?_));simp(disch:=omega) only[go_sem,dk];(repeat' (refine K _ ?_;clear K kp))) |refine A1 rfl ?_ |refine A5 ?_));(refine rJ results60 ?_;refine eN hE ?_;simp[A8,ren,renL])
    rw[<-hno,aR (l:=r) (by omega)];cases l.drop k<;>rfl
  ·have hno:e=Bb l r:=(he.resolve_left (fun h=>he0 h.1)).2
   have b1:(e==0)=false:=by simpa using he0
   by_cases hlt:k<r.length
   ·have dk:decide ((k:Int)<(r.length:Int))=true:=aE (by omega)
    (repeat' (first |refine A0 ?_ |refine A7 ?_ |((refine sR (fun K kp=>?_));simp(disch:=omega) only[go_sem,dk,b1];(repeat' (refine K _ ?_;clear K kp))) |refine A1 rfl ?_ |refine A5 ?_));(refine rJ results60 ?_;refine eN hE ?_;simp[A8,ren,renL]);exact hno
   ·have dk:decide ((k:Int)<(r.length:Int))=false:=aC (by omega)
    (repeat' (first |refine A0 ?_ |refine A7 ?_ |((refine sR (fun K kp=>?_));simp(disch:=omega) only[go_sem,dk];(repeat' (refine K _ ?_;clear K kp))) |refine A1 rfl ?_ |refine A5 ?_));(refine rJ results60 ?_;refine eN hE ?_;simp[A8,ren,renL]);exact hno
end Go.AM
namespace Go.AM
open Go
section
variable {P:Program} {E:Env} {N:Nat} {st:AS} {th:List NLoc} {z:AO} {a:Act} {w:World}
theorem Reps.set_at {c:List AV}{ys:List Value}(h:Reps w z th c ys){j:Nat}{x:AV}(hx: ∀y,ys[j]?=some y->Rep w z th x y):Reps w z th (c.set j x) ys:=by
 refine⟨by simp[h.1],fun i u y h1 h2=>?_⟩;rw[dQ] at h1;split at h1
 ·rename_i e;subst e
  split at h1
  ·cases h1;exact hx y h2
  ·cases h1
 ·exact h.2 i u y h1 h2
theorem EG (n j:Nat)(T:TypeId)(k:Nat){T':TypeId}{c:List AV}(h:lk st.o n=some (.box T' c))(hj:c[j]?=some (.r (.slice none 0 0)))(hne:n<st.n):
  Emb E N st {m:=st.m,o:=(n,.box T' (c.set j (.s st.n 0 0)))::(st.n,.lst T k [])::st.o,n:=st.n+1}:=by
 intro th z a w hs;have hk:=hs.know ⟨0,0,0,0,true⟩ (.lst T k []) (fun hp=>by cases hp) (fun _ _ _ _ _ _ hp=>by cases hp) (.inl ⟨rfl,rfl⟩) (.inl rfl)
 have hl:lk (Br st (.lst T k [])).o n=some (.box T' c):=by simp only[Br,lk];rw[if_neg (by omega)];exact h
 refine⟨_,z,hk.say hl (fun L hL hn=>?_)⟩;obtain⟨hp,cells,fr,h1,h2,h3,h4⟩:=hn;refine⟨hp,cells,fr,h1,h2,h3,h4.set_at fun y hy=>?_⟩;obtain⟨y',hy',hr⟩:=h4.get hj;rw[hy] at hy';cases hy';rw[show y= .slice none 0 0 from hr.r_inv];exact .sn _ _ 0 _ (hs.get_new _) rfl
end
section
variable {P:Program} {E:Env} {N:Nat} {st:AS} {th:List NLoc} {z:AO} {a:Act} {w:World} {o:List (Nat×Nd)} {n:Nat}
theorem Gv {n:Nat}{nd:Nd}{o:List (Nat×Nd)}{j:Nat}{x:Nd}(h:lk ((n,nd)::o) j=some x):(n=j/\x=nd)\/(n≠j/\lk o j=some x):=by
 simp only[lk] at h;split at h
 ·rename_i e;cases h;exact .inl ⟨e,rfl⟩
 ·rename_i e;exact .inr ⟨e,h⟩
theorem T3 (n:Nat){T k:Nat}{els:List (List AV)}(h:lk st.o n=some (.lst T k els)):Emb E N st (C4 st n (.ul T k els [])):=by
 intro th z a w hs;obtain⟨U,hU⟩:=hs.mem.uls;obtain⟨L,h1,h2,h3⟩:=hs.mem.nds n _ h;refine⟨th,z,hs.mem.sayU h rfl (fun e he=>?_) ⟨U,hU.say0 h (fun M hM=>?_)⟩,hs.size,hs.dfs,hs.slots⟩
 ·obtain⟨i,hi⟩:=aO.1 he
  rcases h2 with ⟨_,h0⟩ |⟨_,cells,fr,g1,g2,g3,g4,g5,g6⟩
  ·subst h0;simp at hi
  ·rw[<-g3];exact(g6 i e hi).1
 ·rw[h1] at hM;cases hM
  refine⟨fun _ _ _=>False,fun _ _ _ h=>h,fun _ _ _ _ _ h=>h.elim,fun i e he j x hx=>?_⟩
  rcases h2 with ⟨_,h0⟩ |⟨_,cells,fr,g1,g2,g3,g4,g5,g6⟩
  ·subst h0;simp at he
  ·obtain⟨y,hy,hr,ho⟩:=(g6 i e he).2 j x hx
   exact⟨y,by rw[Bj g1];exact hy,ho,.r _ _ _ hr⟩
theorem Xg (n:Nat){T k:Nat}{els:List (List AV)}(h:lk st.o n=some (.ul T k els [])):Emb E N st (C4 st n (.lst T k (F9 true els))):=by
 intro th z a w hs;obtain⟨U,hU⟩:=hs.mem.uls;have m:=hs.mem;obtain⟨L,h1,h2,h3⟩:=m.nds n _ h
 let z':AO:=fun t b=>z t b\/(t=true/\U n b)
 have le:Le w z w z':=⟨fun _ _ h=> .inl h,fun _ _ _=>rfl⟩
 have key: ∀j x,lk ((n,Nd.lst T k (F9 true els))::st.o) j=some x-> ∃y,lk st.o j=some y:=by
  intro j x hj
  rcases Gv hj with ⟨rfl,_⟩ |⟨_,hj⟩
  ·exact⟨_,h⟩
  ·exact⟨_,hj⟩
 have hnz: ∀j nd M,lk st.o j=some nd->th[j]?=some M->M.ph=false-> ∀t,¬z' t M.b:=by
  intro j nd M hj hM hp t hz;obtain⟨M',k1,_,k3⟩:=m.nds j nd hj;rw[hM] at k1;cases k1
  rcases hz with hz |⟨_,hz⟩
  ·exact(k3 hp).2.1 t hz
  ·exact hU.kn j nd M n hj hM hp hz
 refine⟨th,z',⟨m.len,fun j x hj=>?_,fun i j x y A B hi hj=>?_,fun t b hz=>?_,m.grow,m.frame,fun t b hb=> .inl (m.zin t b hb),fun b hz=>?_,fun b hz=>?_,fun g cs hg=>⟨.inl (m.globs g cs hg).1,(m.globs g cs hg).2⟩,m.pre,m.sys,fun i b=>i≠n/\U i b,fun i T' k' els' op' M hi hM=>?_,fun i b hb=>hU.lt i b hb.2,fun i b hb t hz=>?_,fun i b hb=>hU.ow i b hb.2,fun i j b hb hb'=>hU.inj i j b hb.2 hb'.2,fun i nd M j hi hM hp hb=>?_⟩,hs.size,hs.dfs,fun i x hi=>?_⟩
 ·rcases Gv hj with ⟨rfl,rfl⟩ |⟨hne,hj⟩
  ·refine⟨L,h1,?_,fun hp=>⟨(h3 hp).1,hnz n _ L h h1 hp,(h3 hp).2.2⟩⟩
   rcases h2 with ⟨hp,h0⟩ |⟨hp,cells,fr,g1,g2,g3,g4,g5,g6⟩
   ·subst h0;exact .inl ⟨hp,by simp[F9]⟩
   ·obtain⟨F,f1,_,f3⟩:=hU.at_ n _ _ _ _ L h h1
    refine .inr ⟨hp,cells,fr,g1,g2,g3,g4,by rw[HC];exact g5,fun i e he=>?_⟩;rw[JG,aF] at he;obtain⟨e0,he0,rfl⟩:=he;refine⟨by rw[JH];exact g6 i e0 he0,fun j x hx=>?_⟩;rw[JI,aF] at hx;obtain⟨x0,hx0,rfl⟩:=hx;obtain⟨y,hy,ho,hcu⟩:=f3 i e0 he0 j x0 hx0;exact⟨y,by rw[<-Bj g1];exact hy,UC.seen (show UC w z (F i j) x0 y from hcu) (fun _ _ h=> .inl h) (fun b hb=> .inr ⟨rfl,f1 _ _ _ hb⟩),ho⟩
  ·obtain⟨M,k1,k2,k3⟩:=m.nds j x hj
   exact⟨M,k1,by simpa using k2.on le (fun _=>rfl) [],fun hp=>⟨(k3 hp).1,hnz j x M hj k1 hp,(k3 hp).2.2⟩⟩
 ·obtain⟨x',hx'⟩:=key i x hi
  obtain⟨y',hy'⟩:=key j y hj;exact m.inj i j x' y' A B hx' hy'
 ·rcases hz with hz |⟨_,hz⟩
  ·exact m.zlt t b hz
  ·exact hU.lt n b hz
 ·rcases hz with hz |⟨_,hz⟩
  ·exact m.zout b hz
  ·exact .inr (hU.ow n b hz)
 ·rcases hz with hz |⟨hf,_⟩
  ·exact m.zb b hz
  ·cases hf
 ·rcases Gv hi with ⟨_,he⟩ |⟨hne,hi⟩
  ·cases he
  ·obtain⟨F,f1,f2,f3⟩:=(hU.at_ i T' k' els' op' M hi hM).on le (fun _ _=>rfl) (.inr rfl) []
   rw[List.append_nil] at f3;exact⟨F,fun a b c hc=>⟨cL hne,f1 a b c hc⟩,f2,f3⟩
 ·rcases hz with hz |⟨_,hz⟩
  ·exact hU.nz i b hb.2 t hz
  ·exact hb.1 (hU.inj i n b hb.2 hz)
 ·obtain⟨x',hx'⟩:=key i nd hi
  exact hU.kn i x' M j hx' hM hp hb.2
 ·obtain⟨y,hy,hr⟩:=hs.slots i x hi
  exact⟨y,hy,hr.on' le⟩
theorem O6 (n i j:Nat){T k T' k' m lo len:Nat}{els els':List (List AV)}{op:List (Nat×Nat×AV)}{e:List AV}(h:lk st.o n=some (.ul T k els op))(hop:F0 op i j=some (.s m lo len))(hm:lk st.o m=some (.ul T' k' els' []))(hne:m≠n)(hle:lo+len≤els'.length)(he:els[i]?=some e)(hj:j<e.length):
  Emb E N st {st with o:=(n,.ul T k (els.set i (e.set j (.u T' k' ((els'.drop lo).take len)))) (Sf op i j 1))::rm st.o m}:=by
 intro th z a w hs;obtain⟨U,hU⟩:=hs.mem.uls;have mm:=hs.mem;obtain⟨L,h1,h2,h3⟩:=mm.nds n _ h;obtain⟨M,m1,m2,m3⟩:=mm.nds m _ hm;obtain⟨F,f1,f2,f3⟩:=hU.at_ n _ _ _ _ L h h1;obtain⟨G,q1,q2,q3⟩:=hU.at_ m _ _ _ _ M hm m1;have hi:i<els.length:=(aA.1 he).1
 have key: ∀q x,lk ((n,Nd.ul T k (els.set i (e.set j (.u T' k' ((els'.drop lo).take len)))) (Sf op i j 1))::rm st.o m) q=some x->q≠m/\ ∃y,lk st.o q=some y:=by
  intro q x hq
  rcases Gv hq with ⟨rfl,_⟩ |⟨_,hq⟩
  ·exact⟨cL hne,_,h⟩
  ·rw[Gw] at hq
   split at hq
   ·cases hq
   ·rename_i hqm;exact⟨cL hqm,_,hq⟩
 let V:Nat->Prop:=fun b=>U m b\/(M.ph=false/\b=M.b)
 have hVn: ∀b,V b-> ¬U n b:=by
  rintro b (hb |⟨hp,rfl⟩) hn
  ·exact hne (hU.inj m n b hb hn)
  ·exact hU.kn m _ M n hm m1 hp hn
 have hVq: ∀q b,q≠m->V b-> ¬U q b:=by
  rintro q b hq (hb |⟨hp,rfl⟩) hn
  ·exact hq (hU.inj q m b hn hb)
  ·exact hU.kn m _ M q hm m1 hp hn
 have hold: ∀q nd,lk (rm st.o m) q=some nd->q≠m/\lk st.o q=some nd:=by
  intro q nd hq;rw[Gw] at hq;split at hq
  ·cases hq
  ·rename_i hqm;exact⟨cL hqm,hq⟩
 refine⟨th,z,⟨mm.len,fun q x hq=>?_,fun p q x y A B hp hq=>?_,mm.zlt,mm.grow,mm.frame,mm.zin,mm.zout,mm.zb,mm.globs,mm.pre,mm.sys,fun q b=>if q=n then U n b\/V b else q≠m/\U q b,fun q T2 k2 els2 op2 A hq hA=>?_,fun q b hb=>?_,fun q b hb=>?_,fun q b hb=>?_,fun p q b hb hb'=>?_,fun p nd A q hp hA hph hb=>?_⟩,hs.size,hs.dfs,hs.slots⟩
 ·rcases Gv hq with ⟨rfl,rfl⟩ |⟨_,hq⟩
  ·refine⟨L,h1,?_,h3⟩
   rcases h2 with ⟨_,h0⟩ |⟨hp,cells,fr,g1,g2,g3,g4,g5,g6⟩
   ·subst h0;simp at he
   ·refine .inr ⟨hp,cells,fr,g1,g2,g3,g4,by simpa using g5,fun p e' hp'=>?_⟩
    rw[dQ] at hp';split at hp'
    ·obtain rfl:=bD hp';rw[List.length_set];exact g6 i e he
    ·exact g6 p e' hp'
  ·exact mm.nds q x (hold q x hq).2
 ·obtain⟨_,x',hx'⟩:=key p x hp
  obtain⟨_,y',hy'⟩:=key q y hq;exact mm.inj p q x' y' A B hx' hy'
 ·rcases Gv hq with ⟨rfl,heq⟩ |⟨hqn,hq⟩
  ·cases heq
   rw[h1] at hA;cases hA;simp only[if_true];refine⟨fun a b c=>if a=i/\b=j then V c else F a b c,fun a b c hc=>?_,fun a b a' b' c hc hc'=>?_,fun p e' hp q x hx=>?_⟩
   ·dsimp only at hc
    split at hc
    ·exact .inr hc
    ·exact .inl (f1 _ _ _ hc)
   ·dsimp only at hc hc'
    split at hc<;>split at hc'
    ·omega
    ·exact(hVn c hc (f1 _ _ _ hc')).elim
    ·exact(hVn c hc' (f1 _ _ _ hc)).elim
    ·exact f2 _ _ _ _ _ hc hc'
   ·have old: ∀e0,els[p]?=some e0->e0[q]?=some x-> ¬(p=i/\q=j)-> ∃y,w.cell? ⟨L.b,L.o+p * L.k+q,none⟩=some y/\y.oneCell'=true/\CellU w z th (if p=i/\q=j then V else F p q) (Sf op i j 1) p q x y:=by
     intro e0 he0 hx0 hn;obtain⟨y,hy,ho,hcu⟩:=f3 p e0 he0 q x hx0;refine⟨y,hy,ho,?_⟩;rw[if_neg hn];unfold CellU at hcu ⊢;rw[G7,if_neg (by omega)];exact hcu
    have hF:(fun c=>if p=i/\q=j then V c else F p q c)=if p=i/\q=j then V else F p q:=by
     split<;>rfl
    show ∃y,w.cell? ⟨L.b,L.o+p * L.k+q,none⟩=some y/\y.oneCell'=true/\CellU w z th (fun c=>if p=i/\q=j then V c else F p q c) (Sf op i j 1) p q x y;rw[hF];rw[dQ] at hp;split at hp
    ·rename_i hpi
     ·subst hpi
      obtain rfl:=bD hp;rw[dQ] at hx;split at hx
      ·rename_i hqj
       ·subst hqj
        obtain rfl:=bD hx;obtain⟨y,hy,ho,hcu⟩:=f3 i e he j e[j] (by simp[hj]);refine⟨y,hy,ho,?_⟩;rw[if_pos ⟨rfl,rfl⟩];unfold CellU at hcu ⊢;rw[hop] at hcu;rw[G7,if_pos (by omega)];obtain⟨M',hM',hcase⟩:=hcu.s_inv;rw[m1] at hM';cases hM'
        rcases hcase with ⟨_,rfl,rfl⟩ |⟨hp2,c,o',rfl,hlc,hcap,hox⟩
        ·simp only[List.take_zero];exact .n _ _ _
        ·rcases m2 with ⟨hp',_⟩ |⟨_,cells,fr,g1,g2,g3,g4,g5,g6⟩
         ·rw[hp2] at hp';cases hp'
         have hlen:((els'.drop lo).take len).length=len:=by simp;omega
         have:=UC.u (w:=w) (z:=z) V T' k' ((els'.drop lo).take len) M.b o' c cells fr (fun a b d=>G (lo+a) b d) (fun a b=>(w.cell? ⟨M.b,o'+a * k'+b,none⟩).getD undef) g1 g2 (by rw[hlen];exact hlc) (fun hc=>by
          have e1:=hox hc;have:(lo+c) * M.k≤M.cap * M.k:=bP _ hcap;rw[bJ] at this
          rw[e1,<-g3];omega) (.inr ⟨hp2,rfl⟩) (fun a b d hd=>⟨.inl (q1 _ _ _ hd),fun e1=>by subst e1;exact hU.kn m _ M m hm m1 hp2 (q1 _ _ _ hd)⟩) (fun a b a' b' d hd hd'=>by
          have:=q2 _ _ _ _ _ hd hd';exact⟨by omega,this.2⟩) (fun a e1 ha=>?_) (fun a e1 b x1 ha hb=>?_) (fun a e1 b x1 ha hb=>?_) (fun a e1 b x1 ha hb=>?_)
         ·rw[hlen] at this;exact this
         all_goals
          rw[dV] at ha;split at ha;rotate_left
          ·cases ha
          rename_i hlt;rw[bI] at ha
         ·rw[<-g3];exact g6 _ _ ha
         all_goals
          obtain⟨y1,hy1,ho1,hcu1⟩:=q3 _ e1 ha b x1 hb;have e2:=hox (by omega)
          have e3:M.o+(lo+a) * M.k+b=o'+a * k'+b:=by rw[e2,bJ,g3];omega
          rw[e3] at hy1;simp only[hy1,dH]
         ·rw[<-Bj g1];exact hy1
         ·exact ho1
         ·exact hcu1
      ·rename_i hqj
       exact old e he hx (fun hh=>hqj hh.2.symm)
    ·rename_i hpi
     exact old e' hp hx (fun hh=>hpi hh.1.symm)
  ·obtain⟨k1,k9⟩:=hold q _ hq
   obtain⟨F2,u1,u2,u3⟩:=hU.at_ q T2 k2 els2 op2 A k9 hA;refine⟨F2,fun a b c hc=>?_,u2,u3⟩;dsimp only;rw[if_neg (cL hqn)];exact⟨k1,u1 a b c hc⟩
 ·split at hb
  ·rcases hb with hb |hb |⟨hp,rfl⟩
   ·exact hU.lt _ _ hb
   ·exact hU.lt _ _ hb
   ·exact(m3 hp).1
  ·exact hU.lt _ _ hb.2
 ·split at hb
  ·rcases hb with hb |hb |⟨hp,rfl⟩
   ·exact hU.nz _ _ hb
   ·exact hU.nz _ _ hb
   ·exact(m3 hp).2.1
  ·exact hU.nz _ _ hb.2
 ·split at hb
  ·rcases hb with hb |hb |⟨hp,rfl⟩
   ·exact hU.ow _ _ hb
   ·exact hU.ow _ _ hb
   ·exact(m3 hp).2.2
  ·exact hU.ow _ _ hb.2
 ·split at hb<;>split at hb'
  ·omega
  ·rcases hb with hb |hb
   ·rename_i hpn hqn;subst hpn;exact hU.inj _ _ _ hb hb'.2
   ·exact(hVq q b hb'.1 hb hb'.2).elim
  ·rcases hb' with hb' |hb'
   ·rename_i hpn hqn;subst hqn;exact hU.inj _ _ _ hb.2 hb'
   ·exact(hVq p b hb.1 hb' hb.2).elim
  ·exact hU.inj _ _ _ hb.2 hb'.2
 ·obtain⟨hpm,x',hx'⟩:=key p nd hp
  split at hb
  ·rcases hb with hb |hb |⟨hp2,hb⟩
   ·exact hU.kn p x' A n hx' hA hph hb
   ·exact hU.kn p x' A m hx' hA hph hb
   ·exact hpm (mm.inj p m x' _ A M hx' hm hA m1 hph hp2 hb)
  ·exact hU.kn p x' A q hx' hA hph hb.2
theorem W5 (n i j:Nat){T k T' k':Nat}{els els':List (List AV)}{op:List (Nat×Nat×AV)}{e:List AV}(h:lk st.o n=some (.ul T k els op))(he:els[i]?=some e)(hj:e[j]?=some (.u T' k' els'))(hop:F0 op i j=none):
  Emb E N st {m:=st.m,o:=(st.n,.ul T' k' els' [])::(n,.ul T k els ((i,j,.s st.n 0 els'.length)::op))::st.o,n:=st.n+1}:=by
 intro th z a w hs;obtain⟨U,hU⟩:=hs.mem.uls;have mm:=hs.mem;obtain⟨L,h1,h2,h3⟩:=mm.nds n _ h;obtain⟨F,f1,f2,f3⟩:=hU.at_ n _ _ _ _ L h h1;obtain⟨y,hy,ho,hcu⟩:=f3 i e he j _ hj;unfold CellU at hcu;rw[hop] at hcu
 have hltn:n<st.n:=by rw[<-mm.len];exact(aA.1 h1).1
 have core: ∃(L':NLoc)(Um:Nat->Prop),NdAt w z (th++[L']) L' (.ul T' k' els' [])/\UlAt w z (th++[L']) Um L' els' []/\Rep w z (th++[L']) (.s st.n 0 els'.length) y/\(L'.ph=false->F i j L'.b)/\ ∀b,Um b->F i j b/\(L'.ph=false->b≠L'.b):=by
  cases hcu with
  |r _ _ _ hr=>cases hr
  |n _ _ _=>exact⟨⟨0,0,0,0,true⟩,fun _=>False,.inl ⟨rfl,rfl⟩,⟨fun _ _ _=>False,fun _ _ _ h=>h,fun _ _ _ _ _ h=>h.elim,fun i e he=>by simp at he⟩,.sn _ _ 0 _ (hs.get_new _) rfl,fun hp=>(by cases hp),fun b h=>h.elim⟩
  |u _ _ _ _ b o c cells fr G ys hb hf hl hsz hfb hF hd hk hy' h1' hx=>
   refine⟨⟨b,if c=0 then 0 else o,k',c,false⟩,fun b'=> ∃p q,G p q b',.inr ⟨rfl,cells,fr,hb,hf,rfl,?_,hl,fun p e1 hp=>hk p e1 hp⟩,⟨G,fun p q b' hb'=>⟨p,q,hb'⟩,hd,fun p e1 hp q x hx'=>⟨ys p q,?_,h1' p e1 q x hp hx',hx p e1 q x hp hx'⟩⟩,.s _ _ 0 _ c o _ (hs.get_new _) rfl hl (by simp) (fun hc=>by simp;omega),fun _=>hfb,fun b' ⟨p,q,hb'⟩=>⟨(hF p q b' hb').1,fun _=>(hF p q b' hb').2⟩⟩
   ·show(if c=0 then 0 else o)+c * k'≤cells.size
    by_cases hc:c=0
    ·simp[hc]
    ·rw[if_neg hc];exact hsz (by omega)
   ·have hlt:p<els'.length:=(aA.1 hp).1
    show w.cell? ⟨b,(if c=0 then 0 else o)+p * k'+q,none⟩=_;rw[if_neg (by omega),Bj hb];exact hy' p e1 q x hp hx'
 obtain⟨L',Um,c1,c2,c3,c4,c5⟩:=core;have hget:(th++[L'])[st.n]?=some L':=hs.get_new L';have lr:Le w z w z:=Le.refl w z
 have look: ∀q x,lk ((st.n,Nd.ul T' k' els' [])::(n,Nd.ul T k els ((i,j,.s st.n 0 els'.length)::op))::st.o) q=some x->(q=st.n/\x= .ul T' k' els' [])\/(q=n/\x= .ul T k els ((i,j,.s st.n 0 els'.length)::op))\/(q≠st.n/\q≠n/\lk st.o q=some x):=by
  intro q x hq
  rcases Gv hq with ⟨rfl,rfl⟩ |⟨g1,hq⟩
  ·exact .inl ⟨rfl,rfl⟩
  ·rcases Gv hq with ⟨rfl,rfl⟩ |⟨g2,hq⟩
   ·exact .inr (.inl ⟨rfl,rfl⟩)
   ·exact .inr (.inr ⟨cL g1,cL g2,hq⟩)
 have old: ∀q x M,lk st.o q=some x->(th++[L'])[q]?=some M->th[q]?=some M:=by
  intro q x M hq hM;obtain⟨A,k1,_⟩:=mm.nds q x hq;have:=Ak [L'] k1;rw[hM] at this;cases this;exact k1
 have known: ∀q x M,lk ((st.n,Nd.ul T' k' els' [])::(n,Nd.ul T k els ((i,j,.s st.n 0 els'.length)::op))::st.o) q=some x->(th++[L'])[q]?=some M->(q=st.n/\M=L')\/(q≠st.n/\ ∃x',lk st.o q=some x'/\th[q]?=some M):=by
  intro q x M hq hM
  rcases look q x hq with ⟨rfl,_⟩ |⟨rfl,_⟩ |⟨g1,_,g3⟩
  ·rw[hget] at hM;cases hM;exact .inl ⟨rfl,rfl⟩
  ·exact .inr ⟨by omega,_,h,old _ _ _ h hM⟩
  ·exact .inr ⟨g1,_,g3,old _ _ _ g3 hM⟩
 refine⟨th++[L'],z,⟨by simp[mm.len],fun q x hq=>?_,fun p q x y A B hp hq hA hB e1 e2 hb=>?_,mm.zlt,mm.grow,mm.frame,mm.zin,mm.zout,mm.zb,mm.globs,fun i L hi=>Ak _ (mm.pre i L hi),mm.sys,fun q b=>if q=st.n then Um b else if q=n then U n b/\ ¬F i j b else U q b,fun q T2 k2 els2 op2 A hq hA=>?_,fun q b hb=>?_,fun q b hb=>?_,fun q b hb=>?_,fun p q b hb hb'=>?_,fun p nd A q hp hA hph hb=>?_⟩,hs.size,hs.dfs,fun q x hq=>?_⟩
 ·rcases look q x hq with ⟨rfl,rfl⟩ |⟨rfl,rfl⟩ |⟨_,_,g3⟩
  ·exact⟨L',hget,c1,fun hp=>⟨hU.lt n _ (f1 _ _ _ (c4 hp)),hU.nz n _ (f1 _ _ _ (c4 hp)),hU.ow n _ (f1 _ _ _ (c4 hp))⟩⟩
  ·exact⟨L,Ak _ h1,(show NdAt w z (th++[L']) L (.ul T k els op) from h2.on lr (fun _=>rfl) [L']),h3⟩
  ·obtain⟨M,k1,k2,k3⟩:=mm.nds q x g3
   exact⟨M,Ak _ k1,k2.on lr (fun _=>rfl) [L'],k3⟩
 ·rcases known p x A hp hA with ⟨rfl,rfl⟩ |⟨g1,x',g2,g3⟩<;>rcases known q y B hq hB with ⟨rfl,rfl⟩ |⟨g4,y',g5,g6⟩
  ·rfl
  ·have:=f1 _ _ _ (c4 e1);rw[hb] at this;exact(hU.kn q y' B n g5 g6 e2 this).elim
  ·have:=f1 _ _ _ (c4 e2);rw[<-hb] at this;exact(hU.kn p x' A n g2 g3 e1 this).elim
  ·exact mm.inj p q x' y' A B g2 g5 g3 g6 e1 e2 hb
 ·rcases look q _ hq with ⟨rfl,heq⟩ |⟨rfl,heq⟩ |⟨g1,g2,g3⟩
  ·cases heq
   rw[hget] at hA;cases hA;simp only[if_true];exact c2
  ·cases heq
   have hA':=old q _ A h hA;rw[h1] at hA';cases hA';rw[show(fun b=>if q=st.n then Um b else if q=q then U q b/\ ¬F i j b else U q b)=fun b=>U q b/\ ¬F i j b by funext b;rw[if_neg (by omega),if_pos rfl]];refine⟨fun a b c=>F a b c/\ ¬(a=i/\b=j),fun a b c hc=>⟨f1 _ _ _ hc.1,fun hij=>hc.2 (f2 _ _ _ _ _ hc.1 hij)⟩,fun a b a' b' c hc hc'=>f2 _ _ _ _ _ hc.1 hc'.1,fun p e1 hp r x hx=>?_⟩;obtain⟨y1,hy1,ho1,hcu1⟩:=f3 p e1 hp r x hx;refine⟨y1,hy1,ho1,?_⟩;unfold CellU at hcu1 ⊢;simp only[F0]
   by_cases hpr:i=p/\j=r
   ·rw[if_pos hpr]
    obtain⟨rfl,rfl⟩:=hpr;rw[hy] at hy1;cases hy1;exact c3
   ·rw[if_neg hpr]
    have:CellU w z th (F p r) op p r x y1:=hcu1;have:=this.on lr (fun _ _=>rfl) [L'];unfold CellU at this;split at this
    ·exact this
    ·exact this.sub (fun b hb=>⟨hb,fun hh=>hpr ⟨hh.1.symm,hh.2.symm⟩⟩)
  ·have hA':=old q _ A g3 hA
   have:=(hU.at_ q T2 k2 els2 op2 A g3 hA').on lr (fun _ _=>rfl) (.inr rfl) [L'];rw[show(fun b=>if q=st.n then Um b else if q=n then U n b/\ ¬F i j b else U q b)=U q by funext b;rw[if_neg g1,if_neg g2]];exact this
 ·split at hb
  ·exact hU.lt n b (f1 _ _ _ (c5 b hb).1)
  ·split at hb
   ·exact hU.lt n b hb.1
   ·exact hU.lt q b hb
 ·split at hb
  ·exact hU.nz n b (f1 _ _ _ (c5 b hb).1)
  ·split at hb
   ·exact hU.nz n b hb.1
   ·exact hU.nz q b hb
 ·split at hb
  ·exact hU.ow n b (f1 _ _ _ (c5 b hb).1)
  ·split at hb
   ·exact hU.ow n b hb.1
   ·exact hU.ow q b hb
 ·have YL: ∀q b,(if q=st.n then Um b else if q=n then U n b/\ ¬F i j b else U q b)->(q=st.n/\F i j b)\/(q≠st.n/\U q b/\ ¬F i j b):=by
   intro q b hb;split at hb
   ·rename_i e1;exact .inl ⟨e1,(c5 b hb).1⟩
   ·rename_i e1
    split at hb
    ·rename_i e2;subst e2;exact .inr ⟨e1,hb.1,hb.2⟩
    ·rename_i e2;exact .inr ⟨e1,hb,fun hF=>e2 (hU.inj q n b hb (f1 _ _ _ hF))⟩
  rcases YL p b hb with ⟨g1,g2⟩ |⟨g1,g2,g3⟩<;>rcases YL q b hb' with ⟨g4,g5⟩ |⟨g4,g5,g6⟩
  ·rw[g1,g4]
  ·exact(g6 g2).elim
  ·exact(g3 g5).elim
  ·exact hU.inj p q b g2 g5
 ·rcases known p nd A hp hA with ⟨rfl,rfl⟩ |⟨g1,x',g2,g3⟩
  ·split at hb
   ·exact(c5 _ hb).2 hph rfl
   ·split at hb
    ·exact hb.2 (c4 hph)
    ·rename_i e1 e2;exact e2 (hU.inj q n _ hb (f1 _ _ _ (c4 hph)))
  ·split at hb
   ·exact hU.kn p x' A n g2 g3 hph (f1 _ _ _ (c5 _ hb).1)
   ·split at hb
    ·exact hU.kn p x' A n g2 g3 hph hb.1
    ·exact hU.kn p x' A q g2 g3 hph hb
 ·obtain⟨u,hu,hr⟩:=hs.slots q x hq
  exact⟨u,hu,hr.on lr [L']⟩
end
section
variable {P:Program} {E:Env} {N:Nat} {st:AS} {th:List NLoc} {z:AO} {a:Act} {w:World}
def MF (ρ:List Nat)(o:List (Nat×Nd)):Prop:=(o.map fun p=>ρ[p.1]?).Nodup
theorem Sv {α β:Type}{f:α->β}: ∀ {l:List α},(l.map f).Nodup-> ∀x ∈ l,∀y ∈ l,f x=f y->x=y
 | [],_,x,hx,_,_,_=>by cases hx
 |z::r,h,x,hx,y,hy,e=>by
  rw[List.map_cons,dY] at h
  rcases bA.1 hx with rfl |hx'
  ·rcases bA.1 hy with rfl |hy'
   ·rfl
   ·exact absurd (cI.2 ⟨y,hy',e.symm⟩) h.1
  ·rcases bA.1 hy with rfl |hy'
   ·exact absurd (cI.2 ⟨x,hx',e⟩) h.1
   ·exact Sv h.2 x hx' y hy' e
theorem Nv {ρ:List Nat}{o:List (Nat×Nd)}(h:MF ρ o){i i' j:Nat}{x y:Nd}(hi:lk o i=some x)(hi':lk o i'=some y)(hj:ρ[i]?=some j)(hj':ρ[i']?=some j):i=i':=by
 have:=Sv h (i,x) (CD hi) (i',y) (CD hi') (by simp only[hj,hj']);exact(cH _ _ _ _▸this).1
theorem UlOK.ren2 {U:Nat->Nat->Prop}{o o':List (Nat×Nd)}(hU:UlOK U E o th z w){ρ:List Nat}(hr': ∀j ∈ ρ,j<th.length)(hb':th.length≤1000000000)(hnd:MF ρ o')(get: ∀i nd,lk o' i=some nd-> ∃j,ρ[i]?=some j/\lk o j=some (AA (AU ρ) nd)):
  UlOK (fun i b=>(∃x,lk o' i=some x)/\ ∃j,ρ[i]?=some j/\U j b) E o' (Dn th ρ) z w:=by
 refine⟨fun i T k els op L hi hL=>?_,fun i b ⟨_,j,_,hb⟩=>hU.lt j b hb,fun i b ⟨_,j,_,hb⟩=>hU.nz j b hb,fun i b ⟨_,j,_,hb⟩=>hU.ow j b hb,fun i i' b ⟨⟨x,hx⟩,j,hj,hb⟩ ⟨⟨y,hy⟩,j',hj',hb'⟩=>?_,fun i nd L q hi hL hp ⟨_,j',_,hb⟩=>?_⟩
 ·obtain⟨j,hj,hnd'⟩:=get i _ hi
  rw[Ay hr' hj] at hL;obtain⟨F,h1,h2,h3⟩:=(hU.at_ j T k els _ L hnd' hL).unren (DY hr' hb');exact⟨F,fun a b c hc=>⟨⟨_,hi⟩,j,hj,h1 a b c hc⟩,h2,h3⟩
 ·have:=hU.inj j j' b hb hb'
  subst this;exact Nv hnd hx hy hj hj'
 ·obtain⟨j,hj,hnd'⟩:=get i _ hi
  rw[Ay hr' hj] at hL;exact hU.kn j _ L j' hnd' hL hp hb
theorem Mem.ren2 {o o':List (Nat×Nd)}{n:Nat}(h:Mem E o n th z w)(ρ:List Nat)(hr: ∀j ∈ ρ,j<n)(hb:n≤1000000000)(ho:AY ρ o o')(hpre: ∀i,i<E.th0.length->ρ[i]?=some i)(hnd:MF ρ o'):Mem E o' ρ.length (Dn th ρ) z w:=by
 have hr': ∀j ∈ ρ,j<th.length:=fun j hj=>by rw[h.len];exact hr j hj
 have hb':th.length≤1000000000:=by rw[h.len];exact hb
 have get: ∀i nd,lk o' i=some nd-> ∃j,ρ[i]?=some j/\lk o j=some (AA (AU ρ) nd):=fun i nd hi=>ho _ (CD hi);refine⟨by simp[Dn],fun i nd hi=>?_,fun i i' x y L M hi hi' hL hM e1 e2 hbb=>?_,h.zlt,h.grow,h.frame,h.zin,h.zout,h.zb,h.globs,fun i L hi=>?_,h.sys,?_⟩
 ·obtain⟨j,hj,hnd⟩:=get i nd hi
  obtain⟨L,k1,k2,k3⟩:=h.nds j _ hnd;exact⟨L,by rw[Ay hr' hj];exact k1,k2.unren (DY hr' hb'),k3⟩
 ·obtain⟨j,hj,hx⟩:=get i x hi
  obtain⟨j',hj',hy⟩:=get i' y hi';rw[Ay hr' hj] at hL;rw[Ay hr' hj'] at hM;have:=h.inj j j' _ _ L M hx hy hL hM e1 e2 hbb;subst this;exact Nv hnd hi hi' hj hj'
 ·have hi':i<E.th0.length:=(aA.1 hi).1
  rw[Ay hr' (hpre i hi')];exact h.pre i L hi
 ·obtain⟨U,hU⟩:=h.uls
  exact⟨_,hU.ren2 hr' hb' hnd get⟩
theorem ZK (ρ:List Nat){st st':AS}(hm:Ai ρ st.m st'.m)(ho:AY ρ st.o st'.o)(hn:st'.n=ρ.length)(hr: ∀j ∈ ρ,j<st.n)(hb:st.n≤1000000000)(hpre: ∀i,i<E.th0.length->ρ[i]?=some i)(hnd:MF ρ st'.o):Emb E N st st':=by
 intro th z a w h;refine⟨Dn th ρ,z,?_,h.size,h.dfs,fun i x hi=>?_⟩
 ·rw[hn];exact h.mem.ren2 ρ hr hb ho hpre hnd
 ·obtain⟨y,hy,hrep⟩:=h.slots i _ (hm _ (CD hi))
  exact⟨y,hy,hrep.unren (DY (fun j hj=>by rw[h.mem.len];exact hr j hj) (by rw[h.mem.len];exact hb)) x rfl⟩
theorem W6 (ρ:List Nat){x y:AV}{o':List (Nat×Nd)}(hx:x=ren (AU ρ) y)(ho:AY ρ st.o o')(hr: ∀j ∈ ρ,j<st.n)(hb:st.n≤1000000000)(hpre: ∀i,i<E.th0.length->ρ[i]?=some i)(hnd:MF ρ o'):EmbV E st x o' ρ.length y:=by
 intro th z w v h hv;exact⟨Dn th ρ,z,h.ren2 ρ hr hb ho hpre hnd,hv.unren (DY (fun j hj=>by rw[h.len];exact hr j hj) (by rw[h.len];exact hb)) y hx⟩
end
section
variable {P:Program} {E:Env} {N:Nat} {st:AS} {th:List NLoc} {z:AO} {a:Act} {w:World} {ops:Array Oper} {Q:Exit->Act->World->Prop}
def Xy (ops:Array Oper)(n:Nat):Bool:=(List.range ops.size).all fun t=>decide (t≤n)||(List.range t).any fun t'=>decide (n≤t')&&Region.waitsFor .any ops t t'
theorem PY {n:Nat}{s:Array Bool}(hs:Region.sinkB .any ops n=true)(hc:Xy ops n=true)(inv:HeadInv .any ops n s):
  ∀(d i:Nat),n - i=d->i<n->s.getD i true=false-> ∀t,n≤t->t ∉ Region.ready .any ops s:=by
 intro d
 induction d using Nat.strongRecOn with
 |_ d ih=>
  intro i hd hi hun t ht hr;obtain⟨_,ot,hot,hall⟩:=cO.1 hr;have htlt:t<ops.size:=(bR.1 hot).1
  by_cases htn:t=n
  ·subst htn
   have h1:=bS.1 hs i (cP.2 hi);obtain⟨j,hj,hj2⟩:=dJ.1 h1;simp only[aJ,aP] at hj2;obtain⟨oj,hoj,e,he,hb,hon⟩:=fK hj2.2
   have hjle:j≤t:=by have:=cP.1 hj;omega
   by_cases hjt:j=t
   ·subst hjt
    have:oj=ot:=bD (hoj.symm.trans hot);subst this;have h2:=hall e he hb;rw[hon,getD_both hun] at h2;cases h2
   ·cases hl:s.getD j false with
    |true=>
     have h2:=inv.closed j oj hoj hl e he hb;rw[hon,getD_both hun] at h2;cases h2
    |false=>
     have hjs:j<s.size:=by rw[inv.size];omega
     exact ih (t - j) (by omega) j rfl (by omega) (getD_in hjs hl) t (Nat.le_refl _) hr
  ·have h1:=bS.1 hc t (cP.2 htlt)
   simp only[cA,aP] at h1
   rcases h1 with h1 |h1
   ·omega
   ·obtain⟨t',ht',h1⟩:=dJ.1 h1
    simp only[aJ,aP] at h1;have:=cP.1 ht';obtain⟨o',ho',e,he,hb,hon⟩:=fK h1.2;have:o'=ot:=bD (ho'.symm.trans hot);subst this;have h2:=hall e he hb;rw[hon,getD_both (inv.tail t' h1.1 (by omega))] at h2;cases h2
def Lz (ops:Array Oper)(ord2:List Nat):Nat->Nat->Array Bool->Bool
 |0,_,s=>GX ops ops.size ord2 s
 |g+1,k,s=>decide (Region.ready .any ops s=[k])&&Lz ops ord2 g (k+1) (s.setIfInBounds k true)
def It (ops:Array Oper)(n:Nat)(base:Array Bool->Bool):List Nat->Array Bool->Bool
 | [],s=>base s
 |i::r,s=>decide (i<n)&&(match ops[i]? with
  |some o=>Dm o.op&&(Region.ready .any ops s).contains i&&Region.free .any ops s i
  |none=>false)&&It ops n base r (s.setIfInBounds i true)
theorem M1 {kp:AV->AS->Prop}{K:AS->Prop}(hQ: ∀c a d v w,Q (.panic c) (a.put d v) w->Q (.panic c) a w)
  (hp: ∀x v st' th' z' a' w',kp x st'->Sim E N st' th' z' a' w'->Rep w' z' th' x v->Q (.panic [{v:=v,recovered:=false}]) a' w')
  (hK: ∀st' th' z' a' w',K st'->Sim E N st' th' z' a' w'->Q .normal a' w') (hd: ∀o ∈ ops.toList,∀i,o.dst=some i->i<N)
  (h1:Region.noSelect ops=true) (ord2:List Nat) (hg2:((B3 ops ord2).all fun o=>Uq o.op)=true):
  ∀(l:List Oper)(k:Nat){s:Array Bool}{st:AS}{th:List NLoc}{z:AO}{a:Act}{w:World},(∀j,j<l.length->l[j]?=ops[k+j]?)->HeadInv .any ops ops.size s->Lz ops ord2 l.length k s=true->Sim E N st th z a w->
   Hp P E N (Bf ops) kp l st (fun st1=>He P E N (Bf ops) kp [] (B3 ops ord2) st1 K)->wpAny P .any ops Q (l.length+ord2.length) s a w
 | [],k,s,st,th,z,a,w,hl,inv,ho,h,hx=>by
   have hx':=F7 (P:=P) (E:=E) (N:=N) (tail:=[]) hg2 hx;have hdr:ops.toList.drop ops.size=[]:=aR (by simp);rw[<-hdr] at hx'
   have key:=H7 (n:=ops.size) hQ hp hK hd h1 (fun s inv i hi hs j hj=>by
    obtain⟨_,oj,hoj,_⟩:=cO.1 hj
    exact(bR.1 hoj).1) ord2 inv ho h hx'
   have:=JR (g:=0) (fun s a w hL=>by
    have:=wpAny_of_seq (md:= .any) (Q':=Q) (ops.toList.drop ops.size) ops.size s a w (fun j=>by simp[bI]) (by simpa using hL.1) hL.2
    simpa using this) _ _ _ _ key
   simpa using this
 |o::rest,k,s,st,th,z,a,w,hl,inv,ho,h,hx=>by
  have hk:ops[k]?=some o:=by simpa using(hl 0 (by simp)).symm
  simp only[List.length_cons,Lz,aJ,aP] at ho;have hmem:o ∈ ops.toList:=dZ.2 (dC hk);have hdo:=hd o hmem
  have hr:k ∈ Region.ready .any ops s:=by rw[ho.1];simp
  have inv':=inv.set hr (bR.1 hk).1;have ih: ∀ {st:AS}{th:List NLoc}{z:AO}{a:Act}{w:World},Sim E N st th z a w->Hp P E N (Bf ops) kp rest st (fun st1=>He P E N (Bf ops) kp [] (B3 ops ord2) st1 K)->wpAny P .any ops Q (rest.length+ord2.length) (s.setIfInBounds k true) a w:=
   M1 hQ hp hK hd h1 ord2 hg2 rest (k+1) (fun j hj=>by have:=hl (j+1) (by simp;omega);simpa[dO,eS 1 j] using this) inv' ho.2
  rw[List.length_cons,show rest.length+1+ord2.length=(rest.length+ord2.length)+1 by omega];refine⟨fun h0=>(by rw[h0] at hr;cases hr),fun i hi=>?_⟩;rw[ho.1] at hi
  obtain rfl:i=k:=by simpa using hi
  unfold Hp at hx;unfold wpOp;simp only[hk]
  rcases DP h hx with ⟨hw,hs⟩ |⟨hw,hs⟩
  ·rw[if_pos hw]
   exact .inl (KE h o hs hdo (fun x st' th' z' a' w' g1 g2=>ih g2 g1) (fun x v st' th' z' w' g1 g2 g3=>hp x v st' th' z' a w' g1 g2 g3))
  ·rw[if_neg (by rw[hw];exact dM)]
   exact ih (h.put (.r th undef) o.dst hdo) hs
theorem KT {kp:AV->AS->Prop}{K:AS->Prop}{n:Nat}{mid:List Oper}{base:Array Bool->Bool}{L:Array Bool->Act->World->Prop}(hQ: ∀c a d v w,Q (.panic c) (a.put d v) w->Q (.panic c) a w)(hd: ∀o ∈ ops.toList,∀i,o.dst=some i->i<N)
  (h1:Region.noSelect ops=true) (h2: ∀s,HeadInv .any ops n s-> ∀i,i<n->s.getD i true=false-> ∀j ∈ Region.ready .any ops s,j<n)
  (hdone: ∀s a w,L s a w-> ∀j ∈ Region.ready .any ops s,n≤j)
  (hb: ∀s st th z a w,HeadInv .any ops n s->base s=true->Sim E N st th z a w->Hp P E N (Bf ops) kp mid st K->L s a w):
  ∀(ord:List Nat){s:Array Bool}{st:AS}{th:List NLoc}{z:AO}{a:Act}{w:World},HeadInv .any ops n s->It ops n base ord s=true->Sim E N st th z a w->DC P E N (Bf ops) kp mid (B3 ops ord) st K->N1 P ops Q n L ord.length s a w
 | [],s,st,th,z,a,w,inv,ho,h,hx=>hb s st th z a w inv ho h hx
 |i::rest,s,st,th,z,a,w,inv,ho,h,hx=>by
  simp only[It,aJ,aP] at ho;obtain⟨⟨hin,ho1⟩,ho2⟩:=ho
  cases hi:ops[i]? with
  |none=>rw[hi] at ho1;simp at ho1
  |some o=>
   simp only[B3,List.filterMap_cons,hi] at hx;unfold DC at hx;change FC _ (EO P E N st o.op (fun v st'=>DC P E N (Bf ops) kp mid (B3 ops rest) (st'.put o.dst v) K) kp) (DC P E N (Bf ops) kp mid (B3 ops rest) (st.put o.dst (.r (.tuple #[]))) K) at hx;have hdo:=hd o (dZ.2 (dC hi));simp only[hi,aJ] at ho1;obtain⟨⟨hq,hr⟩,hf⟩:=ho1
   have hr':i ∈ Region.ready .any ops s:=by simpa using hr
   have ih: ∀ {s:Array Bool}{st:AS}{th:List NLoc}{z:AO}{a:Act}{w:World},HeadInv .any ops n s->It ops n base rest s=true->Sim E N st th z a w->DC P E N (Bf ops) kp mid (B3 ops rest) st K->N1 P ops Q n L rest.length s a w:=
    KT hQ hd h1 h2 hdone hb rest
   rcases DP h hx with ⟨hw,hs⟩ |⟨hw,hs⟩
   ·obtain⟨x,hqv,hs⟩:=Ge hq hs
    obtain⟨v,hrep,hrun⟩:=Eu h o hqv;exact Dy hi (dI h1) (fun c a w=>hQ c a _ _ w) h2 hin hdone _ s a w inv (dU hi hf) hr' (.inl ⟨hw,fun w' e=>hrun w' (e.sameK h)⟩)
     (ih (inv.set hr' hin) ho2 (h.put hrep o.dst hdo) hs)
   ·exact Dy hi (dI h1) (fun c a w=>hQ c a _ _ w) h2 hin hdone _ s a w inv (dU hi hf) hr' (.inr ⟨hw,rfl⟩)
     (ih (inv.set hr' hin) ho2 (h.put (.r th undef) o.dst hdo) hs)
def Yx (ops:Array Oper)(n m:Nat)(ord ord2:List Nat):Bool:=
 Region.noSelect ops&&Region.sinkB .any ops n&&Xy ops n&&decide (n<m)&&decide (m≤ops.size)&&decide (ord.length=n)&&decide (ord2.length=ops.size - m)&&It ops n (Lz ops ord2 (m - n) n) ord (Array.replicate ops.size false)
theorem ZX {id:Nat}{AQ:AExit->AS->Prop}{ds:List (Option Nat)}{l lm l2:List Oper}(hm:P.follows .mixedOrders=true)(n m:Nat)(ord ord2:List Nat)(hB:Yx ops n m ord ord2=true)(hd:DS N ops=true)
  (hg:((B3 ops ord).all fun o=>Uq o.op)=true) (hg2:((B3 ops ord2).all fun o=>Uq o.op)=true)
  (hds:Bf ops=ds) (ht:(ops.toList.drop n).take (m - n)=lm) (hh:B3 ops ord=l) (hh2:B3 ops ord2=l2)
  (h: ∀(K:AS->Prop)(kp:AV->AS->Prop),(∀st',AQ .normal st'->K st')->(∀x st',AQ (.pan x) st'->kp x st')->He P E N ds kp lm l st (fun st1=>He P E N ds kp [] l2 st1 K)):AWP P E N (.region id ops true) st AQ:=by
 subst hds ht hh hh2;have h:=F7 hg (h (AQ .normal) (fun x st=>AQ (.pan x) st) (fun _ h=>h) (fun _ _ h=>h));intro Q hQ th z a w hs;simp only[Yx,aJ,aP] at hB;obtain⟨⟨⟨⟨⟨⟨⟨b1,b2⟩,b3⟩,b4⟩,b5⟩,b6⟩,b7⟩,b8⟩:=hB
 let Q':Exit->Act->World->Prop:=fun e a w=>match e with
  | .panic c=> ∀a':Act,a'.defers=a.defers->Q (.panic c) a' w
  |e=>Q e a w
 refine wp_mono (Q:=Q') ?_ (fun e a w hq=>by
  cases e
  case panic c=>exact hq a rfl
  all_goals exact hq)
 have inv0:HeadInv .any ops n (Array.replicate ops.size false):=
  ⟨by simp,fun j oj _ hl=>(by rw[getD_replicate_false] at hl;cases hl),fun t _ ht=>getD_in (by simpa using ht) (getD_replicate_false _ _)⟩
 refine wp_region_any hm ?_;have hQ1: ∀c a d v w,Q' (.panic c) (a.put d v) w->Q' (.panic c) a w:=fun c a d v w hq a' ha=>hq a' (by rw[ha];cases d<;>rfl);have hp1: ∀x v st' th' z' a' w',AQ (.pan x) st'->Sim E N st' th' z' a' w'->Rep w' z' th' x v->Q' (.panic [{v:=v,recovered:=false}]) a' w':=fun x v st' th' z' a' w' g1 g2 g3 a2 ha=>hQ.2.2.2 x v st' th' z' w' g1 g2.mem g3 a2 (ha.trans g2.dfs);have hK1: ∀st' th' z' a' w',AQ .normal st'->Sim E N st' th' z' a' w'->Q' .normal a' w':=fun st' th' z' a' w' g1 g2=>hQ.1 st' th' z' a' w' g1 g2
 have hml:((ops.toList.drop n).take (m - n)).length=m - n:=by simp;omega
 obtain⟨g,hgm⟩: ∃g,m - n=g+1:=⟨m - n - 1,by omega⟩;have key:=KT (P:=P) (Q:=Q') (n:=n) (L:=fun s a w=>(∀j ∈ Region.ready .any ops s,n≤j)/\wpAny P .any ops Q' ((m - n)+ord2.length) s a w) hQ1 (Cq hd) b1
  (fun s inv i hi hs j hj=>by
   by_cases h:j<n
   ·exact h
   ·exact absurd hj (PY b2 b3 inv _ i rfl hi hs j (by omega)))
  (fun s a w hL=>hL.1)
  (fun s st th z a w inv hb hs hx=>by
   refine⟨?_,?_⟩
   ·rw[hgm] at hb
    simp only[Lz,aJ,aP] at hb;intro j hj;rw[hb.1] at hj
    have:j=n:=by simpa using hj
    omega
   ·have:=M1 (P:=P) (Q:=Q') (kp:=fun x st=>AQ (.pan x) st) hQ1 hp1 hK1 (Cq hd) b1 ord2 hg2 _ n (s:=s) (fun j hj=>by
     rw[hml] at hj
     rw[bM hj,bI];simp) ⟨inv.size,inv.closed,fun t h1 h2=>by omega⟩ (by rw[hml];exact hb) hs hx
    rw[hml] at this
    exact this)
  ord inv0 b8 (hs.ext (H6 w)) h
 have:=JR (fun s a w hL=>hL.2) _ _ _ _ key;rw[b6,b7,show n+(m - n+(ops.size - m))=ops.size by omega] at this;exact this
def PhA (P:Program)(E:Env)(N:Nat)(ds:List (Option Nat))(l2:List Oper)(AQ:AExit->AS->Prop)(st1:AS):Prop:= ∀(K:AS->Prop)(kp:AV->AS->Prop),(∀st',AQ .normal st'->K st')->(∀x st',AQ (.pan x) st'->kp x st')->He P E N ds kp [] l2 st1 K
theorem phA {ds:List (Option Nat)}{l2:List Oper}{AQ:AExit->AS->Prop}{st1:AS}(h: ∀(K:AS->Prop)(kp:AV->AS->Prop),(∀st',AQ .normal st'->K st')->(∀x st',AQ (.pan x) st'->kp x st')->He P E N ds kp [] l2 st1 K):PhA P E N ds l2 AQ st1:=h
theorem rP {id:Nat}{AQ:AExit->AS->Prop}{ds:List (Option Nat)}{l lm l2:List Oper}(hm:P.follows .mixedOrders=true)(n m:Nat)(ord ord2:List Nat)
  (h: ∀(K:AS->Prop)(kp:AV->AS->Prop),(∀st',PhA P E N ds l2 AQ st'->K st')->(∀x st',AQ (.pan x) st'->kp x st')->He P E N ds kp lm l st K)
  (hB:Yx ops n m ord ord2=true:=by kernel_rfl) (hd:DS N ops=true:=by kernel_rfl)
  (hg:((B3 ops ord).all fun o=>Uq o.op)=true:=by kernel_rfl) (hg2:((B3 ops ord2).all fun o=>Uq o.op)=true:=by kernel_rfl)
  (hds:Bf ops=ds:=by simp only[go_sem];rfl) (ht:(ops.toList.drop n).take (m - n)=lm:=by simp only[go_sem];rfl) (hh:B3 ops ord=l:=by simp only[go_sem];rfl) (hh2:B3 ops ord2=l2:=by simp only[go_sem];rfl):AWP P E N (.region id ops true) st AQ:=
 ZX hm n m ord ord2 hB hd hg hg2 hds ht hh hh2 fun K kp hK hkp=>h _ kp (fun _ hh=>hh K kp hK hkp) hkp
end
theorem QR {E:Env}{N:Nat}{st:AS}{T:TypeId}(n:Nat)(h:lk st.o n=some (.lst T 1 [[.r (.slice none 0 0)]])):Emb E N st (C4 st n (.lst T 1 [[.ro true 1 []]])):=fun th z a w hs=>
 ⟨th,z,hs.say h fun L hL hA=>by
  rcases hA with hA |⟨hp,cells,fr,h1,h2,h3,h4,h5,h6⟩
  ·exact absurd hA.2 (by simp)
  ·refine .inr ⟨hp,cells,fr,h1,h2,h3,h4,h5,fun i e he=>?_⟩
   cases i with
   |succ i=>simp at he
   |zero=>
    obtain rfl:e=[.ro true 1 []]:=by simpa using he.symm
    obtain⟨g1,g2⟩:=h6 0 [.r (.slice none 0 0)] rfl;refine⟨g1,fun j x hx=>?_⟩
    cases j with
    |succ j=>simp at hx
    |zero=>
     obtain rfl:x= .ro true 1 []:=by simpa using hx.symm
     obtain⟨y,hy,hr,ho⟩:=g2 0 (.r (.slice none 0 0)) rfl;obtain rfl:=hr.r_inv
     exact⟨_,hy,.nil _ _ _ _ _,ho⟩⟩
section
variable {P:Program} {G:List (Nat×List Value)} {N:Nat} {m m':List (Nat×AV)} {z z':AO} {a:Act} {w:World} {E:Env} {st:AS} {th:List NLoc} {o:List (Nat×Nd)} {n:Nat}
def At (G:List (Nat×List Value))(N:Nat)(m:List (Nat×AV))(z:AO)(a:Act)(w:World):Prop:=Sim ⟨w,fun _=>False,z,G,[],[]⟩ N ⟨m,[],0⟩ [] z a w
theorem M2 {w:World}{z:AO}(hz: ∀t b,z t b->b<w.heap.size)(hG: ∀g cs,(g,cs) ∈ G->z true g/\ ∀(j:Nat) v,cs[j]?=some v->w.cell? ⟨g,j,none⟩=some v):Mem ⟨w,fun _=>False,z,G,[],[]⟩ [] 0 [] z w:=
 ⟨rfl,fun i nd hi=>by simp[lk] at hi,fun i j x y L M hi=>by simp[lk] at hi,hz,Nat.le_refl _,fun _ _ _=>rfl,fun _ _ h=>h,fun b h=> .inl h,fun b h=>h,hG,fun i L hi=>by simp at hi,Sys.refl w,LP rfl⟩
theorem K6 (hG:E.G=G)(hds:E.ds=[])(h:Sim E N ⟨m,[],0⟩ th z a w):At G N m z a w:=by
 have hth:th=[]:=bV.1 h.mem.len;subst hth;exact⟨M2 h.mem.zlt fun g cs hg=>h.mem.globs g cs (by rw[hG];exact hg),h.size,h.dfs.trans hds,h.slots⟩
structure Since (w:World)(z:AO)(w':World)(z':AO):Prop where
 ext:Ext w w'
 sub: ∀t b,z t b->z' t b
 new: ∀t b,z' t b->z t b\/(t=true/\w.heap.size≤b/\b<w'.heap.size)
theorem Since.trans {w1 w2 w3:World}{z1 z2 z3:AO}(h:Since w1 z1 w2 z2)(k:Since w2 z2 w3 z3):Since w1 z1 w3 z3:=
 ⟨h.ext.trans k.ext,fun t b hb=>k.sub t b (h.sub t b hb),fun t b hb=>by
  rcases k.new t b hb with q |⟨q1,q2,q3⟩
  ·rcases h.new t b q with r |⟨r1,r2,r3⟩
   ·exact .inl r
   ·exact .inr ⟨r1,r2,aY r3 k.ext.size⟩
  ·exact .inr ⟨q1,bL h.ext.size q2,q3⟩⟩
def Wd:AExit->Exit
 | .normal=> .normal
 | .exit id=> .exit id
 | .ret=> .ret
 | .pan _=> .outgrown
def WC (E:Env)(N:Nat)(AQ:AExit->List (Nat×AV)->Prop):AExit->AS->Prop
 | .pan _,_=>False
 |e,st=> ∃m',AQ e m'/\Emb E N st ⟨m',[],0⟩
theorem Ct {w w':World}{z z':AO}(h:Mem ⟨w,fun _=>False,z,G,[],[]⟩ o n th z' w'):Since w z w' z':=
 ⟨⟨h.grow,fun b hb=>h.frame b hb (fun x=>x),h.sys⟩,h.zin,fun t b hb=>by
   cases t with
   |true=>
    rcases h.zout b hb with q |q |q
    ·exact .inl q
    ·exact q.elim
    ·exact .inr ⟨rfl,q,h.zlt _ _ hb⟩
   |false=>exact .inl (h.zb b hb)⟩
theorem Y8 {c:Code}{AQ:AExit->List (Nat×AV)->Prop}{Q:Exit->Act->World->Prop}(hA: ∀E:Env,E.G=G->E.th0.length=0->AWP P E N c ⟨m,[],0⟩ (WC E N AQ))(h:At G N m z a w)
  (hQ: ∀e m' a' w' z',AQ e m'->At G N m' z' a' w'->Since w z w' z'->Q (Wd e) a' w'):c.wp P Q a w:=by
 have key: ∀e st th' z' a' w',(∃m',AQ e m'/\Emb ⟨w,fun _=>False,z,G,[],[]⟩ N st ⟨m',[],0⟩)->Sim ⟨w,fun _=>False,z,G,[],[]⟩ N st th' z' a' w'->Q (Wd e) a' w':=by
  rintro e st th' z' a' w' ⟨m',h1,h2⟩ hs;obtain⟨th2,z2,h3⟩:=h2 th' z' a' w' hs;exact hQ e m' a' w' z2 h1 (K6 rfl rfl h3) (Ct h3.mem)
 exact hA ⟨w,fun _=>False,z,G,[],[]⟩ rfl rfl Q ⟨fun st th z a w h1 h2=>key .normal st th z a w h1 h2,fun id st th z a w h1 h2=>key (.exit id) st th z a w h1 h2,fun st th z a w h1 h2=>key .ret st th z a w h1 h2,fun x v st th z w h1=>h1.elim⟩ [] z a w h
theorem Mem.freezeB (h:Mem E o n th z w){i:Nat}{T:TypeId}{c:List AV}{L:NLoc}(hi:lk o i=some (.box T c))(hL:th[i]?=some L):Mem E (rm o i) n th (fun t b=>z t b\/(t=true/\L.ph=false/\b=L.b)) w:=by
 have le:Le w z w (fun t b=>z t b\/(t=true/\L.ph=false/\b=L.b)):=⟨fun _ _ h=> .inl h,fun _ _ _=>rfl⟩;obtain⟨L',h1,_,h3⟩:=h.nds i _ hi;rw[hL] at h1;cases h1
 have hs: ∀j x,lk (rm o i) j=some x->i≠j/\lk o j=some x:=by
  intro j x hj;rw[Gw] at hj;split at hj
  ·cases hj
  ·exact⟨by assumption,hj⟩
 refine⟨h.len,fun j nd hj=>?_,fun p q x y M M' hp hq=>h.inj p q x y M M' (hs _ _ hp).2 (hs _ _ hq).2,?_,h.grow,h.frame,fun t b hb=> .inl (h.zin t b hb),?_,?_,fun g cs hg=>⟨.inl (h.globs g cs hg).1,(h.globs g cs hg).2⟩,h.pre,h.sys,?_⟩
 ·obtain⟨hne,hj⟩:=hs _ _ hj
  obtain⟨M,k1,k2,k3⟩:=h.nds j nd hj;refine⟨M,k1,by simpa using k2.on le (fun _=>rfl) [],fun hp=>⟨(k3 hp).1,fun t hz=>?_,(k3 hp).2.2⟩⟩
  rcases hz with hz |⟨_,hp2,hz⟩
  ·exact(k3 hp).2.1 t hz
  ·exact hne (h.inj i j _ _ L M hi hj hL k1 hp2 hp hz.symm)
 ·rintro t b (hb |⟨_,hp,rfl⟩)
  ·exact h.zlt t b hb
  ·exact(h3 hp).1
 ·rintro b (hb |⟨_,hp,rfl⟩)
  ·exact h.zout b hb
  ·rcases(h3 hp).2.2 with h5 |h5
   ·exact .inr (.inl h5)
   ·exact .inr (.inr h5)
 ·rintro b (hb |⟨hf,_⟩)
  ·exact h.zb b hb
  ·cases hf
 ·obtain⟨U,hU⟩:=h.uls
  refine⟨U,fun j T' k' els' op M hj hM=>?_,hU.lt,fun j b hb t hz=>?_,hU.ow,hU.inj,fun j nd M q hj=>hU.kn j nd M q (hs _ _ hj).2⟩
  ·have:=(hU.at_ j T' k' els' op M (hs _ _ hj).2 hM).on le (fun _ _=>rfl) (.inr rfl) []
   simpa using this
  ·rcases hz with hz |⟨_,hp,rfl⟩
   ·exact hU.nz j b hb t hz
   ·exact hU.kn i _ L j hi hL hp hb
def pu:AV->Bool
 | .r _=>true
 | .ro _ _ _=>true
 | .re _ _ _=>true
 |_=>false
theorem Rep.unpure {x:AV}{v:Value}(hx:pu x=true)(h:Rep w z th x v):Rep w z [] x v:=by
 cases h with
 |r _ v=>exact .r _ v
 |nil _ t k a c=>exact .nil _ t k a c
 |ro _ t k els b o c ys h1 h2 h3 h4 h5 h6=>exact .ro _ t k els b o c ys h1 h2 h3 h4 h5 h6
 |re _ t c b o off ys h1 h2 h3=>exact .re _ t c b o off ys h1 h2 h3
 |s=>cases hx
 |sn=>cases hx
 |p=>cases hx
 |agg=>cases hx
 |tup=>cases hx
 |fn=>cases hx
 |ifc=>cases hx
 |q=>cases hx
 |any=>cases hx
theorem Rx (d i:Nat){T:TypeId}{c:List AV}(hm:lk st.m d=some (.p i 0 0))(hn:lk st.o i=some (.box T c))(hc:c.all pu=true):Emb E N st {st with m:=(d,.re true c 0)::st.m,o:=rm st.o i}:=by
 intro th z a w hs;obtain⟨L,h1,h2,h3⟩:=hs.mem.nds i _ hn;obtain⟨hp,cells,fr,hb,hf,ho,hc2⟩:=h2;have le:Le w z w (fun t b=>z t b\/(t=true/\L.ph=false/\b=L.b)):=⟨fun _ _ h=> .inl h,fun _ _ _=>rfl⟩;refine⟨th,_,hs.mem.freezeB hn h1,hs.size,hs.dfs,fun j x hj=>?_⟩;simp only[lk] at hj;split at hj
 ·rename_i e;subst e;cases hj
  obtain⟨y,hy,hr⟩:=hs.slots d _ hm;refine⟨y,hy,?_⟩
  cases hr with
  |p _ _ _ _ L' hL'=>
   rw[h1] at hL';cases hL';rw[ho,gP];refine Rep.re_mk (.inr ⟨rfl,hp,rfl⟩) (fun q x hq=>?_);have hlen:=hc2.1
   have hql:q<cells.size:=by have:=(aA.1 hq).1;simp at hlen;omega
   refine⟨cells[q],?_,?_⟩
   ·simp only[World.cell?,hb]
    simp[hql]
   ·have:=hc2.2 q x cells[q] hq (by simp[hql])
    exact(Rep.unpure (bS.1 hc x (aB hq)) this).on' le
 ·obtain⟨y,hy,hr⟩:=hs.slots j x hj
  exact⟨y,hy,hr.on' le⟩
end
theorem A0_ (c:List AV)(off:Nat):PT (.re true c off)= ∀x ∈ c,PT x:=propext ⟨fun h=>by cases h;assumption,.re c off⟩
theorem A0a (f:Nat)(c:List AV):PT (.fn f c)= ∀x ∈ c,PT x:=propext ⟨fun h=>by cases h;assumption,.fn f c⟩
attribute [simp] A0_ A0a
attribute [go_sem] pu
section
variable {P:Program} {G:List (Nat×List Value)} {N:Nat} {m m':List (Nat×AV)} {z z':AO} {a:Act} {w:World} {E:Env} {st:AS} {th:List NLoc} {o:List (Nat×Nd)} {n k:Nat} {Q:Exit->Act->World->Prop} {ops:Array Oper} {L:Array Bool->Act->World->Prop}
def rW (ro:Option Nat):Fence:={Fence.wide with round:=ro}
theorem WF {ro:Option Nat}{f:Nat}{args:Array Value}{R:Ending->World->Prop}(h:Calls P f args w R):CallsIn (rW ro) k P f args w R:=(callsIn_wide (n:=k)).2 h
theorem Sk {ro:Option Nat}{o:Oper}{next:Act->World->Prop}(hnd: ∀c,o.op≠ .defer c)(h:o.wp P a w next Q):o.wpIn (rW ro) k P a w next Q:=by
 refine⟨fun _ _=>trivial,?_⟩;rw[Oper.semAt_plain (rW ro) _ o hnd];unfold Oper.wp at h;generalize (execOp a.eval o).run P w=r at h
 cases r with
 |ok x w'=>
  cases x<;>simp only[Oper.upon,Oper.uponIn] at h ⊢ <;>
   first
    |exact h
    |exact⟨fun h=>(by cases h),WF h⟩
    |exact⟨fun h=>(by cases h),fun c cs _=>let ⟨v,w',r,s⟩:=h c cs;⟨v,w',r,stepsIn_wide.2 s⟩⟩
    |exact h.elim
 |halt x w'=>cases x<;>simp only[Oper.upon,Oper.uponIn] at h ⊢ <;>exact h
def G4:Op->Bool
 | .defer _=>false
 |_=>true
theorem Iv {op:Op}(h:G4 op=true): ∀c,op≠ .defer c:=by rintro c rfl;cases h
theorem L8 {ro:Option Nat}(hO: ¬LetsOut Q): ∀(l:List Oper),(l.all fun o=>G4 o.op)=true-> ∀ {a:Act}{w:World},wpList P ops Q l a w->wpListIn (rW ro) k P ops Q l a w
 | [],_,_,_,h=>h
 |o::rest,hd,a,w,h=>by
  simp only[List.all_cons,aJ] at hd;simp only[wpList] at h;simp only[wpListIn];split at h
  ·rename_i hw
   rw[if_pos hw]
   rcases h with h |h
   ·exact Oper.wpIn_mono (fun a w h=>L8 hO rest hd.2 h) (Sk (Iv hd.1) h)
   ·exact absurd h.2 hO
  ·rename_i hw
   rw[if_neg hw];exact⟨fun _ _=>trivial,L8 hO rest hd.2 h⟩
theorem A0b {ro:Option Nat}{i:Nat}{K:Act->World->Prop}(hO: ¬LetsOut Q)(hd:(ops.toList.all fun o=>G4 o.op)=true)(h:wpOp P ops Q i K a w):wpOpIn (rW ro) k P ops Q i K a w:=by
 unfold wpOp at h;unfold wpOpIn
 cases hi:ops[i]? with
 |none=>simp only[hi] at h ⊢;exact h
 |some o=>
  simp only[hi] at h ⊢;have hdo:=bS.1 hd o (dZ.2 (dC hi));split at h
  ·rename_i hw
   rw[if_pos hw]
   rcases h with h |h
   ·exact Sk (Iv hdo) h
   ·exact absurd h.2 hO
  ·rename_i hw
   rw[if_neg hw];exact⟨fun _ _=>trivial,h⟩
theorem N0 {ro:Option Nat}{g:Nat}(hO: ¬LetsOut Q)(hd:(ops.toList.all fun o=>G4 o.op)=true)(hL: ∀s a w,L s a w->wpAnyIn (rW ro) k P .any ops Q g s a w): ∀(f:Nat)(s:Array Bool)(a:Act)(w:World),N1 P ops Q n L f s a w->wpAnyIn (rW ro) k P .any ops Q (f+g) s a w
 |0,s,a,w,h=>by rw[Nat.zero_add];exact hL _ _ _ h
 |f+1,s,a,w,h=>by
  rw[show f+1+g=(f+g)+1 by omega];exact⟨fun h0=>absurd h0 h.1,fun i hi=>A0b hO hd (wpOp_mono (fun a' w' h'=>N0 hO hd hL f _ a' w' h'.2) (h.2 i hi).2)⟩
theorem JQ {F:Fence}: ∀(l:List Oper)(j:Nat)(s:Array Bool)(a:Act)(w:World),(∀i,l[i]?=ops[j+i]?)->Region.seqB .any ops l.length j s=true->wpListIn F k P ops Q l a w->wpAnyIn F k P .any ops Q l.length s a w
 | [],_,_,_,_,_,hB,h=>⟨by simpa[Region.seqB] using hB,h⟩
 |o::l,j,s,a,w,hl,hB,h=>by
  have h0:ops[j]?=some o:=by simpa using(hl 0).symm
  simp only[List.length_cons,Region.seqB,aJ,aP] at hB;refine⟨fun h1=>(by rw[hB.1] at h1;cases h1),fun i hi=>?_⟩;rw[hB.1] at hi
  obtain rfl:i=j:=by simpa using hi
  have hw:wpOpIn F k P ops Q i (wpListIn F k P ops Q l) a w:=by unfold wpOpIn;simp only[h0];exact h
  exact wpOpIn_mono (fun a' w' h'=>JQ l (i+1) _ a' w' (fun i'=>by have:=hl (i'+1);simpa[dO,eS 1 i'] using this) hB.2 h') hw
theorem KY {kp:AV->AS->Prop}{K:AS->Prop}(hQ: ∀c a d v w,Q (.panic c) (a.put d v) w->Q (.panic c) a w)
  (hp: ∀x v st' th' z' a' w',kp x st'->Sim E N st' th' z' a' w'->Rep w' z' th' x v->Q (.panic [{v:=v,recovered:=false}]) a' w') (hd: ∀o ∈ ops.toList,∀i,o.dst=some i->i<N)
  (h1:Region.noSelect ops=true) (h2: ∀s,HeadInv .any ops n s-> ∀i,i<n->s.getD i true=false-> ∀j ∈ Region.ready .any ops s,j<n):
  ∀(ord:List Nat){s:Array Bool}{st:AS}{th:List NLoc}{z:AO}{a:Act}{w:World},HeadInv .any ops n s->GX ops n ord s=true->Sim E N st th z a w->DC P E N (Bf ops) kp [] (B3 ops ord) st K->
   N1 P ops Q n (fun s a w=>Region.seqB .any ops (ops.size - n) n s=true/\ ∃st th z,K st/\Sim E N st th z a w) ord.length s a w
 | [],s,st,th,z,a,w,inv,ho,h,hx=>⟨ho,st,th,z,hx,h⟩
 |i::rest,s,st,th,z,a,w,inv,ho,h,hx=>by
  simp only[GX,aJ,aP] at ho;obtain⟨⟨hin,ho1⟩,ho2⟩:=ho
  cases hi:ops[i]? with
  |none=>rw[hi] at ho1;simp at ho1
  |some o=>
   simp only[B3,List.filterMap_cons,hi] at hx;unfold DC at hx;change FC _ (EO P E N st o.op (fun v st'=>DC P E N (Bf ops) kp [] (B3 ops rest) (st'.put o.dst v) K) kp) (DC P E N (Bf ops) kp [] (B3 ops rest) (st.put o.dst (.r (.tuple #[]))) K) at hx;have hmem:o ∈ ops.toList:=dZ.2 (dC hi);have hdo:=hd o hmem;simp only[hi] at ho1;have ih: ∀ {s:Array Bool}{st:AS}{th:List NLoc}{z:AO}{a:Act}{w:World},HeadInv .any ops n s->GX ops n rest s=true->Sim E N st th z a w->DC P E N (Bf ops) kp [] (B3 ops rest) st K->N1 P ops Q n _ rest.length s a w:=
    KY hQ hp hd h1 h2 rest
   have guard:=DP h hx;split at ho1
   ·rename_i hq
    simp only[aJ] at ho1;obtain⟨hr,hf⟩:=ho1
    have hr':i ∈ Region.ready .any ops s:=by simpa using hr
    rcases guard with ⟨hw,hs⟩ |⟨hw,hs⟩
    ·obtain⟨x,hqv,hs⟩:=Ge hq hs
     obtain⟨v,hrep,hrun⟩:=Eu h o hqv;exact Dy hi (dI h1) (fun c a w=>hQ c a _ _ w) h2 hin (fun s a w hL=>seqB_ready hL.1) _ s a w inv (dU hi hf) hr' (.inl ⟨hw,fun w' e=>hrun w' (e.sameK h)⟩)
      (ih (inv.set hr' hin) ho2 (h.put hrep o.dst hdo) hs)
    ·exact Dy hi (dI h1) (fun c a w=>hQ c a _ _ w) h2 hin (fun s a w hL=>seqB_ready hL.1) _ s a w inv (dU hi hf) hr' (.inr ⟨hw,rfl⟩)
      (ih (inv.set hr' hin) ho2 (h.put (.r th undef) o.dst hdo) hs)
   ·simp only[aP] at ho1
    have hr':i ∈ Region.ready .any ops s:=by rw[ho1];simp
    refine⟨fun h0=>(by rw[h0] at hr';cases hr'),fun j hj=>?_⟩;rw[ho1] at hj
    obtain rfl:j=i:=by simpa using hj
    refine⟨hin,?_⟩;unfold wpOp;simp only[hi]
    rcases guard with ⟨hw,hs⟩ |⟨hw,hs⟩
    ·rw[if_pos hw]
     exact .inl (E9 h o hs hdo (fun x st' th' z' a' w' g1 g2 g3=>⟨g3,ih (inv.set hr' hin) ho2 g2 g1⟩) (fun x v st' th' z' w' g1 g2 g3=>hp x v st' th' z' a w' g1 g2 g3))
    ·rw[if_neg (by rw[hw];exact dM)]
     exact⟨Ext.refl w,ih (inv.set hr' hin) ho2 (h.put (.r th undef) o.dst hdo) hs⟩
end
section
variable {P:Program} {G:List (Nat×List Value)} {N:Nat} {m m':List (Nat×AV)} {z z':AO} {a:Act} {w:World} {E:Env} {st:AS} {th:List NLoc} {o:List (Nat×Nd)} {k:Nat} {Q:Exit->Act->World->Prop} {ops:Array Oper}
theorem Ph {l:Nat}{f x:Nat}{d:Option Nat}{ts:Array TypeId}{ty:TypeId}{pos:String}{aft:Array Edge}(hf:a.eval (.tmp f)= .func (.yield l) #[] #[]):
  (execOp a.eval ⟨d,.call {callee:= .value (.tmp f),args:= #[.tmp x],argTypes:=ts},ty,pos,aft,none⟩).run P w=(Instr.yield l #[a.eval (.tmp x)]).run P w:=by
 simp[execOp,resolve,hf,Deferred.ofValue,aQ,bT,aL,invoke]
theorem Us {id:Nat}{ds:List (Option Nat)}{l0 rest:List Oper}{d f x:Nat}{ts:Array TypeId}{ty:TypeId}{pos:String}{aft:Array Edge}{KM:List (Nat×AV)->Prop}(hm:P.follows .mixedOrders=true)(n:Nat)(ord:List Nat)
  (hA:At G N m z a w) (hO: ¬LetsOut Q) (hP: ∀c a w,¬Q (.panic c) a w)
  (hB:Ex ops n ord=true) (hd:DS N ops=true) (hnd:(ops.toList.all fun o=>G4 o.op)=true) (hg:((B3 ops ord).all fun o=>Uq o.op)=true) (hds:Bf ops=ds) (hh:B3 ops ord=l0)
  (ht:ops.toList.drop n=⟨some d,.call {callee:= .value (.tmp f),args:= #[.tmp x],argTypes:=ts},ty,pos,aft,none⟩::rest)
  (hx: ∀E:Env,E.G=G->E.th0.length=0-> ∀(K:AS->Prop)(kp:AV->AS->Prop),(∀st',WC E N (fun e m1=>e= .normal/\KM m1) .normal st'->K st')->(∀x st',False->kp x st')->He P E N ds kp [] l0 ⟨m,[],0⟩ K)
  (hy: ∀m1 a1 w1 z1,KM m1->At G N m1 z1 a1 w1->Since w z w1 z1-> ∃l,a1.eval (.tmp f)= .func (.yield l) #[] #[]/\YieldAt Fence.wide k P l #[a1.eval (.tmp x)] w1 (fun e w2=> ∃v,e= .returned v/\wpListIn Fence.wide (k+1) P ops Q rest (a1.put (some d) v) w2)):
  (Code.region id ops true).wp P Q a w:=by
 subst hds hh;simp only[Ex,aJ,aP] at hB;obtain⟨⟨⟨b1,b2⟩,b5⟩,b6⟩:=hB
 have hlt: ∀s,HeadInv .any ops n s-> ∀i,i<n->s.getD i true=false-> ∀j ∈ Region.ready .any ops s,j<n:=by
  intro s inv i hi hs j hj
  rcases cA _ _▸b2 with b2 |b2
  ·have:=aZ b2
   obtain⟨_,oj,hoj,_⟩:=cO.1 hj;rw[this];exact(bR.1 hoj).1
  ·simp only[aJ,aP] at b2
   by_cases h:j<n
   ·exact h
   ·exact absurd hj (tail_waits b2.1.1 b2.1.2 b2.2 inv _ i rfl hi hs j (by omega))
 have hle:n≤ops.size:=by
  rcases cA _ _▸b2 with b2 |b2
  ·exact eL (aZ b2)
  ·simp only[aJ,aP] at b2;exact Nat.le_of_lt b2.2
 have inv0:HeadInv .any ops n (Array.replicate ops.size false):=
  ⟨by simp,fun j oj _ hl=>(by rw[getD_replicate_false] at hl;cases hl),fun t _ ht=>getD_in (by simpa using ht) (getD_replicate_false _ _)⟩
 refine(wpIn_wide (n:=k+1)).1 ?_;refine wpIn_region_any hm ?_;have hA':Sim ⟨w,fun _=>False,z,G,[],[]⟩ N ⟨m,[],0⟩ [] z a w.drew:=Sim.ext hA (H6 w);have key:=KY (Q:=Q) (P:=P) (kp:=fun _ _=>False) (K:=fun st=> ∃m1,KM m1/\Emb ⟨w,fun _=>False,z,G,[],[]⟩ N st ⟨m1,[],0⟩) (fun c a d v w hq=>absurd hq (hP c _ w)) (fun x v st' th' z' a' w' g1=>g1.elim)
  (Cq hd) b1 hlt ord inv0 b6 hA' (F7 hg (hx _ rfl rfl _ _ (fun st' ⟨m1,⟨_,h1⟩,h2⟩=>⟨m1,h1,h2⟩) (fun _ _ h=>h)))
 have:=N0 (ro:=none) (k:=k+1) (g:=ops.size - n) hO hnd (fun s a1 w1 ⟨hs,st1,th1,z1,⟨m1,hk,he⟩,hs1⟩=>by
  obtain⟨th2,z2,hs2⟩:=he _ _ _ _ hs1;obtain⟨l,hf,fn,tmps,assign,body,hr,hR⟩:=hy m1 a1 w1 z2 hk (K6 rfl rfl hs2) (Ct hs2.mem)
  have h0:=JQ (P:=P) (ops:=ops) (F:=rW none) (k:=k+1) (Q:=Q) (ops.toList.drop n) n s a1 w1 (fun j=>by simp[bI]) (by simpa using hs) (by
   rw[ht];simp only[wpListIn];rw[if_pos (show Region.wanted _ _=true from rfl)];refine⟨fun _ _=>trivial,?_⟩;rw[Oper.semAt_plain (rW none) _ _ (fun c h=>by cases h)];rw[Ph hf,hr,Oper.uponIn_round];refine⟨fun h=>(by cases h),?_⟩;refine RoundIn.mono hR ?_;rintro e w2 ⟨v,rfl,h1⟩
   exact h1)
  simpa using h0) _ _ _ _ key
 rw[b5,show n+(ops.size - n)=ops.size by omega] at this;exact this
theorem Sg {rest:List Oper}{KM:List (Nat×AV)->Prop}(hA:At G N m z a w)(hO: ¬LetsOut Q)(hdo: ∀o ∈ rest,∀i,o.dst=some i->i<N)(hnd:(rest.all fun o=>G4 o.op)=true)
  (hx: ∀E:Env,E.G=G->E.th0.length=0-> ∀(K:AS->Prop)(kp:AV->AS->Prop),(∀st',WC E N (fun e m1=>e= .normal/\KM m1) .normal st'->K st')->(∀x st',False->kp x st')->ex P E N (Bf ops) kp rest ⟨m,[],0⟩ K)
  (hQ: ∀m1 a1 w1 z1,KM m1->At G N m1 z1 a1 w1->Since w z w1 z1->Q .normal a1 w1):wpListIn Fence.wide k P ops Q rest a w:=by
 refine L8 (ro:=none) hO rest hnd ?_;refine DL (kp:=fun _ _=>False) (K:=fun st=> ∃m1,KM m1/\Emb ⟨w,fun _=>False,z,G,[],[]⟩ N st ⟨m1,[],0⟩) (fun x v st' th' z' a' w' h=>h.elim) (fun st' th' z' a' w' ⟨m1,h1,h2⟩ hs=>?_) rest hdo hA
  (Eb (hx _ rfl rfl _ _ (fun st' ⟨m1,⟨_,h1⟩,h2⟩=>⟨m1,h1,h2⟩) (fun _ _ h=>h)))
 obtain⟨th2,z2,hs2⟩:=h2 _ _ _ _ hs;exact hQ m1 a' w' z2 h1 (K6 rfl rfl hs2) (Ct hs2.mem)
theorem PD {ι:Type}(R:ι->Act->World->Prop)(μ:ι->Nat)(i0:ι){c:Code}(h0:R i0 a w)(round: ∀i a w,R i a w->c.wp P (Exit.then (fun a' w'=> ∃i',μ i'<μ i/\R i' a' w') Q) a w):(Code.loop c).wp P Q a w:=by
 classical
 let p:Act->World->Nat->Prop:=fun a w n=> ∃i,R i a w/\μ i=n
 let mm:Act->World->Nat:=fun a w=>if h: ∃n,p a w n then (Du (p a w) h.choose h.choose_spec).choose else 0
 have hm: ∀a w n,p a w n->p a w (mm a w)/\mm a w≤n:=by
  intro a w n hn;have h: ∃n,p a w n:=⟨n,hn⟩;have:=(Du (p a w) h.choose h.choose_spec).choose_spec;simp only[mm,dif_pos h];exact⟨this.1,this.2 n hn⟩
 refine wp_loop (fun a w=> ∃n,p a w n) mm ⟨μ i0,i0,h0,rfl⟩ (fun a w ⟨n,hn⟩=>?_);obtain⟨⟨i,hR,hμ⟩,_⟩:=hm a w n hn;refine wp_mono (round i a w hR) (fun e a' w' h=>?_)
 cases e with
 |normal=>
  obtain⟨i',hlt,hR'⟩:=h;have hp:p a' w' (μ i'):=⟨i',hR',rfl⟩;exact⟨⟨μ i',hp⟩,by have:=(hm a' w' _ hp).2;omega⟩
 |exit id=>exact h
 |goto l=>exact h
 |ret=>exact h
 |panic ch=>exact h
 |outgrown=>exact h
theorem At.turn {w':World}(h:At G N m z a w)(hs:w.heap.size≤w'.heap.size)(hz: ∀t b,z t b->w'.heap[b]?=w.heap[b]?):At G N m z a w':=by
 refine⟨M2 (fun t b hb=>aY (h.mem.zlt t b hb) hs) (fun g cs hg=>?_),h.size,h.dfs,fun i x hi=>?_⟩
 ·obtain⟨h1,h2⟩:=h.mem.globs g cs hg
  exact⟨h1,fun j v hv=>(BO (hz _ _ h1) j).trans (h2 j v hv)⟩
 ·obtain⟨y,hy,hr⟩:=h.slots i x hi
  exact⟨y,hy,hr.on' ⟨fun _ _ h=>h,hz⟩⟩
theorem My {xs:List AV}{vs:List Value}(hz: ∀t b,z t b->b<w.heap.size)(hG: ∀g cs,(g,cs) ∈ G->z true g/\ ∀(j:Nat) v,cs[j]?=some v->w.cell? ⟨g,j,none⟩=some v)(hr:Reps w z [] xs vs)(hN:xs.length≤N):
  At G N (AX 0 xs) z {tmps:=vs.toArray++Array.replicate (N - vs.toArray.size) undef,defers:=[]} w:=by
 refine⟨M2 hz hG,by simp;have:=hr.1;omega,rfl,fun i x hi=>?_⟩;obtain⟨_,h2⟩:=Re xs 0 i x hi;rw[Nat.sub_zero] at h2;obtain⟨y,hy,hrep⟩:=hr.get h2;refine⟨y,?_,hrep⟩;have:i<vs.length:=(aA.1 hy).1;simp only[Array.getElem?_append,gD,this,if_true];simpa using hy
theorem At.zlt (h:At G N m z a w): ∀t b,z t b->b<w.heap.size:=h.mem.zlt
theorem At.slot (h:At G N m z a w){i:Nat}{x:AV}(hi:lk m i=some x):Rep w z [] x (a.eval (.tmp i)):=by
 obtain⟨y,hy,hr⟩:=h.slots i x hi
 have:a.eval (.tmp i)=y:=by simp[Act.eval,dE,hy]
 rw[this];exact hr
theorem At.putb (h:At G N m z a w)(d:Nat)(hd:d<N)(v:Value):At G N ((d,.r v)::m) z (a.put (some d) v) w:=Sim.put h (.r _ v) (some d) (fun i hi=>by cases hi;exact hd)
end
theorem Rep.later {w:World}{z:AO}{th th':List NLoc}{x:AV}{v:Value}(h:Rep w z th x v)(hf: ∀(i:Nat) L,th[i]?=some L->th'[i]?=some L):Rep w z th' x v:=by
 induction h with
 |r th v=>exact .r _ _
 |nil th t k a c=>exact .nil _ _ _ _ _
 |ro th t k els b o c ys hz hc hk hy ho hx ih=>exact .ro _ _ _ _ b o c ys hz hc hk hy ho hx
 |re th t c b o off ys hz hy hx ih=>exact .re _ _ _ b o _ ys hz hy hx
 |s th n lo len c x L hL hp hl hc ho=>exact .s _ _ _ _ c x L (hf _ _ hL) hp hl hc ho
 |sn th n lo L hL hp=>exact .sn _ _ _ L (hf _ _ hL) hp
 |p th n i off L hL=>exact .p _ _ _ _ L (hf _ _ hL)
 |agg th c ys hl hx ih=>exact .agg _ _ ys hl (fun i x y h1 h2=>ih i x y h1 h2 hf)
 |tup th c ys hl hx ih=>exact .tup _ _ ys hl (fun i x y h1 h2=>ih i x y h1 h2 hf)
 |fn th f c ys hl hx ih=>exact .fn _ _ _ ys hl (fun i x y h1 h2=>ih i x y h1 h2 hf)
 |ifc th t x v hx ih=>exact .ifc _ _ _ _ (ih hf)
 |q th n L hL=>exact .q _ _ L (hf _ _ hL)
 |any th v=>exact .any _ _
def OU (D b:Nat):Prop:=b=D\/b=D+1
def Qr (D:Nat)(w0:World)(G:List (Nat×List Value))(th0:List NLoc)(W:World)(zc:AO):Env:=⟨W,fun b=>(∀t,¬zc t b)/\ ¬OU D b/\w0.heap.size≤b,zc,G,th0,[]⟩
section
variable {P:Program} {G:List (Nat×List Value)} {N D:Nat} {w0 W w w':World} {z0 zc z z':AO} {th0 th:List NLoc} {o:List (Nat×Nd)} {n:Nat} {m:List (Nat×AV)} {tmps:Array Value}
theorem Mem.epochG {E:Env}(h:Mem E o n th z w)(hG:E.G=G)(hpre: ∀(i:Nat) L,th0[i]?=some L->th[i]?=some L)(hu:Km o=true)
  (hnd: ∀i nd L,lk o i=some nd->th[i]?=some L->L.ph=false->L.b<w.heap.size/\(∀t,¬z t L.b)/\ ¬OU D L.b/\w0.heap.size≤L.b) (hs:w.heap.size≤w'.heap.size) (hsame: ∀b,b<w.heap.size-> ¬OU D b->w'.heap[b]?=w.heap[b]?)
  (hzr: ∀t b,z t b-> ¬OU D b) (hzz: ∀t b,z t b->z' t b) (hzn: ∀t b,z' t b->z t b\/(t=true/\w.heap.size≤b/\b<w'.heap.size)):Mem (Qr D w0 G th0 w' z') o n th z' w':=by
 have le:Le w z w' z':=⟨hzz,fun t b hb=>hsame b (h.zlt t b hb) (hzr t b hb)⟩;refine⟨h.len,fun i nd hi=>?_,h.inj,?_,Nat.le_refl _,fun _ _ _=>rfl,fun _ _ h=>h,fun b h=> .inl h,fun b h=>h,fun g cs hg=>?_,hpre,Sys.refl _,LP hu⟩
 ·obtain⟨L,h1,h2,h3⟩:=h.nds i nd hi
  refine⟨L,h1,by simpa using h2.on le (fun hp=>hsame _ (hnd i nd L hi h1 hp).1 (hnd i nd L hi h1 hp).2.2.1) [],fun hp=>?_⟩;obtain⟨k1,k2,k3,k4⟩:=hnd i nd L hi h1 hp
  have hz': ∀t,¬z' t L.b:=fun t hz=>by
   rcases hzn t L.b hz with q |⟨_,q,_⟩
   ·exact k2 t q
   ·omega
  exact⟨aY k1 hs,hz',.inl ⟨hz',k3,k4⟩⟩
 ·intro t b hb
  rcases hzn t b hb with q |⟨_,_,q⟩
  ·exact aY (h.zlt t b q) hs
  ·exact q
 ·obtain⟨h1,h2⟩:=h.globs g cs (by rw[hG];exact hg)
  exact⟨hzz _ _ h1,fun j v hv=>(BO (le.same _ _ h1) j).trans (h2 j v hv)⟩
theorem Mem.epoch (h:Mem (Qr D w0 G th0 W zc) o n th z w)(hu:Km o=true)(h0:w0.heap.size≤D)(hD:D+1<W.heap.size)(hs:w.heap.size≤w'.heap.size)(hsame: ∀b,b<w.heap.size-> ¬OU D b->w'.heap[b]?=w.heap[b]?)
  (hzr: ∀t b,z t b-> ¬OU D b) (hzz: ∀t b,z t b->z' t b) (hzn: ∀t b,z' t b->z t b\/(t=true/\w.heap.size≤b/\b<w'.heap.size)):Mem (Qr D w0 G th0 w' z') o n th z' w':=by
 refine h.epochG rfl h.pre hu (fun i nd L hi hL hp=>?_) hs hsame hzr hzz hzn;obtain⟨L',h1,_,h3⟩:=h.nds i nd hi;rw[hL] at h1;cases h1;obtain⟨k1,k2,k3⟩:=h3 hp;refine⟨k1,k2,?_⟩
 rcases k3 with k3 |k3
 ·exact k3.2
 ·have k3:W.heap.size≤L.b:=k3
  exact⟨by rintro(e |e)<;>omega,by omega⟩
structure Bd (D:Nat)(w0:World)(z0:AO)(th0:List NLoc)(m:List (Nat×AV))(tmps:Array Value)(W:World)(zc:AO):Prop where
 slots: ∀i x,lk m i=some x-> ∃y,tmps[i]?=some y/\Rep W zc th0 x y
 zrd: ∀t b,zc t b-> ¬OU D b
 zlt: ∀t b,zc t b->b<W.heap.size
 since:Since w0 z0 W zc
theorem Bd.go (h:Bd D w0 z0 th0 m tmps W zc)(h0:w0.heap.size≤D)(hD:D+1<W.heap.size)(hs:W.heap.size≤w'.heap.size)(hsame: ∀b,b<W.heap.size->(∃t,zc t b)\/b<w0.heap.size->w'.heap[b]?=W.heap[b]?)(hsys:Sys W w')
  (hzz: ∀t b,zc t b->z' t b) (hzn: ∀t b,z' t b->zc t b\/(t=true/\w0.heap.size≤b/\b<w'.heap.size/\ ¬OU D b)):Bd D w0 z0 th0 m tmps w' z':=by
 have le:Le W zc w' z':=⟨hzz,fun t b hb=>hsame b (h.zlt t b hb) (.inl ⟨t,hb⟩)⟩;refine⟨fun i x hi=>?_,fun t b hb=>?_,fun t b hb=>?_,⟨⟨bL h.since.ext.size hs,fun b hb=>?_,h.since.ext.sys.trans hsys⟩,fun t b hb=>hzz t b (h.since.sub t b hb),fun t b hb=>?_⟩⟩
 ·obtain⟨y,hy,hr⟩:=h.slots i x hi
  exact⟨y,hy,hr.on' le⟩
 ·rcases hzn t b hb with q |q
  ·exact h.zrd t b q
  ·exact q.2.2.2
 ·rcases hzn t b hb with q |q
  ·exact aY (h.zlt t b q) hs
  ·exact q.2.2.1
 ·exact(hsame b (aY hb h.since.ext.size) (.inr hb)).trans (h.since.ext.same b hb)
 ·rcases hzn t b hb with q |q
  ·rcases h.since.new t b q with r |⟨r1,r2,r3⟩
   ·exact .inl r
   ·exact .inr ⟨r1,r2,aY r3 hs⟩
  ·exact .inr ⟨q.1,q.2.1,q.2.2.1⟩
theorem Bd.mem (h:Bd D w0 z0 th0 m tmps W zc)(h0:w0.heap.size≤D)(hD:D+1<W.heap.size)(hm:Mem (Qr D w0 G th0 W zc) o n th z' w'):Bd D w0 z0 th0 m tmps w' z':=by
 refine h.go h0 hD hm.grow (fun b hb hk=>hm.frame b hb (fun ho=>?_)) hm.sys hm.zin (fun t b hb=>?_)
 ·rcases hk with ⟨t,hk⟩ |hk
  ·exact ho.1 t hk
  ·have:=ho.2.2;omega
 ·cases t with
  |false=>exact .inl (hm.zb b hb)
  |true=>
   rcases hm.zout b hb with q |q |q
   ·exact .inl q
   ·exact .inr ⟨rfl,q.2.2,hm.zlt _ _ hb,q.2.1⟩
   ·have q:W.heap.size≤b:=q
    exact .inr ⟨rfl,by omega,hm.zlt _ _ hb,by rintro(e |e)<;>omega⟩
theorem Mem.rd (hm:Mem (Qr D w0 G th0 W zc) o n th z' w')(hD:D+1<W.heap.size){b:Nat}(hb:OU D b):w'.heap[b]?=W.heap[b]?:=
 hm.frame b (show b<W.heap.size by rcases hb with rfl |rfl<;>omega) (fun ho=>ho.2.1 hb)
def JM (G:List (Nat×List Value))(D:Nat)(w0:World)(z0:AO)(th0:List NLoc)(m:List (Nat×AV))(tmps:Array Value)(o:List (Nat×Nd))(n:Nat)(W:World)(z:AO):Prop:=
 D+1<W.heap.size/\ ∃th zc,Mem (Qr D w0 G th0 W zc) o n th zc W/\Bd D w0 z0 th0 m tmps W zc/\ ∀t b,z t b->zc t b
theorem JM.step (h:JM G D w0 z0 th0 m tmps o n W z)(hu:Km o=true)(h0:w0.heap.size≤D)(hs:W.heap.size≤w'.heap.size)(hsame: ∀b,b<W.heap.size-> ¬OU D b->w'.heap[b]?=W.heap[b]?)(hsys:Sys W w')
  (hzn: ∀t b,z' t b->z t b\/(t=true/\W.heap.size≤b/\b<w'.heap.size)):JM G D w0 z0 th0 m tmps o n w' z':=by
 obtain⟨hD,th,zc,hm,hb,hz⟩:=h;refine⟨by omega,th,fun t b=>zc t b\/(t=true/\W.heap.size≤b/\b<w'.heap.size),hm.epoch hu h0 hD hs hsame hb.zrd (fun t b h=> .inl h) (fun t b h=>h),?_,fun t b hb'=>?_⟩
 ·refine hb.go h0 hD hs (fun b hlt hk=>hsame b hlt ?_) hsys (fun t b h=> .inl h) (fun t b h=>?_)
  ·rcases hk with ⟨t,hk⟩ |hk
   ·exact hb.zrd t b hk
   ·rintro(e |e)<;>omega
  ·rcases h with h |⟨h1,h2,h3⟩
   ·exact .inl h
   ·exact .inr ⟨h1,by omega,h3,by rintro(e |e)<;>omega⟩
 ·rcases hzn t b hb' with q |q
  ·exact .inl (hz t b q)
  ·exact .inr q
def SU (P:Program)(l kk:Nat)(E:Env)(N:Nat)(c:Code)(st:AS)(AQ:AExit->AS->Prop):Prop:=
 ∀Q,QOK E N Q AQ-> ¬LetsOut Q-> ∀th z a w,Sim E N st th z a w->c.wpIn (rW (some l)) kk P Q a w
section
variable {l kk:Nat} {E:Env} {st:AS} {AQ:AExit->AS->Prop} {c x y:Code}
theorem DM {id:Nat}{ops:Array Oper}(h: ∀(K:AS->Prop)(kp:AV->AS->Prop),(∀st',AQ .normal st'->K st')->(∀x st',AQ (.pan x) st'->kp x st')->ex P E N (Bf ops) kp ops.toList st K)(hd:DS N ops=true:=by kernel_rfl)(hnd:(ops.toList.all fun o=>G4 o.op)=true:=by kernel_rfl):SU P l kk E N (.region id ops false) st AQ:=by
 intro Q hQ hO th z a w hs;refine wpIn_region_list (L8 hO _ hnd ?_);exact DL (kp:=fun x st=>AQ (.pan x) st) (K:=AQ .normal) (fun x v st' th' z' a' w' h1 h2 h3=>hQ.2.2.2 x v st' th' z' w' h1 h2.mem h3 a' h2.dfs) (fun st' th' z' a' w' h1 h2=>hQ.1 st' th' z' a' w' h1 h2) ops.toList (Cq hd) hs (Eb (h _ _ (fun _ h=>h) (fun _ _ h=>h)))
theorem Mv (h:AQ .normal st):SU P l kk E N .skip st AQ:=fun _ hQ _ th z a w hs=>wpIn_skip (hQ.1 st th z a w h hs)
theorem WT {id:Nat}(h:AQ (.exit id) st):SU P l kk E N (.exit id) st AQ:=fun _ hQ _ th z a w hs=>wpIn_exit (hQ.2.1 id st th z a w h hs)
theorem Xu (h:AQ .ret st):SU P l kk E N .ret st AQ:=fun _ hQ _ th z a w hs=>wpIn_ret (hQ.2.2.1 st th z a w h hs)
theorem LJ (h:SU P l kk E N x st (DX (fun st'=>SU P l kk E N y st' AQ) AQ)):SU P l kk E N (.seq x y) st AQ:=by
 intro Q hQ hO th z a w hs;refine wpIn_seq (h (Exit.then (y.wpIn (rW (some l)) kk P Q) Q) ⟨?_,?_,?_,?_⟩ (by rintro⟨a,w,h⟩;exact hO ⟨a,w,h⟩) th z a w hs)
 ·intro st' th' z' a' w' h1 h2;exact h1 Q hQ hO th' z' a' w' h2
 ·intro id st' th' z' a' w' h1 h2;exact hQ.2.1 id st' th' z' a' w' h1 h2
 ·intro st' th' z' a' w' h1 h2;exact hQ.2.2.1 st' th' z' a' w' h1 h2
 ·intro x v st' th' z' w' h1 h2 h3 a' h4;exact hQ.2.2.2 x v st' th' z' w' h1 h2 h3 a' h4
theorem OC {id:Nat}(h:SU P l kk E N c st (K5 id AQ)):SU P l kk E N (.block id c) st AQ:=by
 intro Q hQ hO th z a w hs;refine wpIn_block (h (Exit.inBlock id Q) ⟨?_,?_,?_,?_⟩ (by rintro⟨a,w,h⟩;exact hO ⟨a,w,h⟩) th z a w hs)
 ·intro st' th' z' a' w' h1 h2;exact hQ.1 st' th' z' a' w' h1 h2
 ·intro id' st' th' z' a' w' h1 h2
  simp only[K5] at h1;simp only[Exit.inBlock];split at h1
  ·rename_i e;rw[if_pos (gJ e)];exact hQ.1 st' th' z' a' w' h1 h2
  ·rename_i e;rw[if_neg (Nat.ne_of_beq_eq_false e)];exact hQ.2.1 id' st' th' z' a' w' h1 h2
 ·intro st' th' z' a' w' h1 h2;exact hQ.2.2.1 st' th' z' a' w' h1 h2
 ·intro x v st' th' z' w' h1 h2 h3 a' h4;exact hQ.2.2.2 x v st' th' z' w' h1 h2 h3 a' h4
theorem Mw {o:Operand}(hc:ev st E.G o=some (.r (.bool true)))(h:SU P l kk E N x st AQ):SU P l kk E N (.cond o x y) st AQ:=fun Q hQ hO th z a w hs=>wpIn_cond_true (hs.eval_r hc) (h Q hQ hO th z a w hs)
theorem IV {o:Operand}(hc:ev st E.G o=some (.r (.bool false)))(h:SU P l kk E N y st AQ):SU P l kk E N (.cond o x y) st AQ:=fun Q hQ hO th z a w hs=>wpIn_cond_false (hs.eval_r hc) (h Q hQ hO th z a w hs)
end
end
open Go Go.RowKit
structure Yld {α:Type}(eA:α->AV)(all:List α)(P:Program)(k l:Nat)(J Jx:List α->World->AO->Prop):Prop where
 grow: ∀pre W W' z z',J pre W z->Since W z W' z'->J pre W' z'
 growx: ∀pre W W' z z',Jx pre W z->Since W z W' z'->Jx pre W' z'
 call: ∀pre x v W z,pre++[x] <+: all->J pre W z->(∀t b,z t b->b<W.heap.size)->Rep W z [] (eA x) v->YieldAt Fence.wide k P l #[v] W fun e W'=>(W.heap.size≤W'.heap.size/\(∀t b,z t b->W'.heap[b]?=W.heap[b]?))/\
  ((e= .returned (.bool true)/\J (pre++[x]) W' z)\/(e= .returned (.bool false)/\Jx (pre++[x]) W' z))
def T4:AExit->Code
 | .exit id=> .exit id
 |_=> .ret
section
variable {P:Program} {G:List (Nat×List Value)} {N kk:Nat} {w0 w:World} {z0 zc:AO} {th0 th:List NLoc} {m:List (Nat×AV)} {a:Act} {Q:Exit->Act->World->Prop} {α:Type} {eA:α->AV}
theorem Gj (w:World)(r:Nat)(o:Obj){D:Nat}(hr:OU D r): ∀b,b<w.heap.size-> ¬OU D b->(w.putObj r o).heap[b]?=w.heap[b]?:=fun b _ hb=>eE (by rintro rfl;exact hb hr)
theorem PC {g:Operand}{p gf:Nat}{assign body:Code}{lb:Array Value}{all:List α}(I:List α->List (Nat×Nd))(nI:Nat)(B:List α->α->AS)(Ix:AExit->List α->List (Nat×Nd))(nX:Nat)(ok:List α->Prop)(X:AExit->List α->Prop)
  (hu: ∀pre,Km (I pre)=true) (huB: ∀pre x,Km (B pre x).o=true) (hux: ∀e pre,Km (Ix e pre)=true) (hXn: ∀v pre,¬X (.pan v) pre) (hok:ok [])
  (hA:Mem ⟨w0,fun _=>False,z0,G,[],[]⟩ (I []) nI th zc w) (hsl: ∀i x,lk m i=some x-> ∃y,a.tmps[i]?=some y/\Rep w zc th0 x y) (hth: ∀(i:Nat) L,th0[i]?=some L->th[i]?=some L)
  (htm:a.tmps.size=N) (hdf:a.defers=[]) (hg:a.eval g= .func (.func gf) #[] lb) (hgf:NC P gf=true) (hp:p<N) (hpm:lk m p=none)
  (hit: ∀J Jx W z,Yld eA all P kk (w.heap.size+1) J Jx->(∀t b,z t b->b<W.heap.size)->Since w zc W z->J [] W z->CallsIn Fence.wide (kk+1) P gf (#[.func (.yield (w.heap.size+1)) #[] #[]]++lb) W fun e W'=>(∃v,e= .returned v)/\ ∃z',(∀t b,z t b->z' t b)/\(J all W' z'\/ ∃pre,pre <+: all/\Jx pre W' z'))
  (hassign: ∀E pre x,pre++[x] <+: all->ok pre->E.G=G->E.th0.length=th0.length->SU P (w.heap.size+1) kk E N assign ⟨(p,eA x)::m,I pre,nI⟩ (fun e st=>e= .normal/\Emb E N st (B pre x)))
  (hbody: ∀E pre x,pre++[x] <+: all->ok pre->E.G=G->E.th0.length=th0.length->SU P (w.heap.size+1) kk E N body (B pre x) (fun e st=>(e= .normal/\ok (pre++[x])/\Emb E N st ⟨[],I (pre++[x]),nI⟩)\/(e≠ .normal/\X e (pre++[x])/\Emb E N st ⟨[],Ix e (pre++[x]),nX⟩)))
  (hdone: ∀W z',ok all->JM G w.heap.size w0 z0 th0 m a.tmps (I all) nI W z'->W.heap[w.heap.size]?=some (.deferred (some []))->Q .normal {a with defers:=[{target:= .collected w.heap.size,args:= #[]}]} W)
  (hstop: ∀e pre W z',pre <+: all->X e pre->JM G w.heap.size w0 z0 th0 m a.tmps (Ix e pre) nX W z'->W.heap[w.heap.size]?=some (.deferred (some []))->(T4 e).wp P Q {a with defers:=[{target:= .collected w.heap.size,args:= #[]}]} W):
  (Code.rangeFunc g #[p] assign body).wp P Q a w:=by
 obtain⟨D,hDd⟩: ∃D,D=w.heap.size:=⟨_,rfl⟩
 have h0:w0.heap.size≤D:=by rw[hDd];exact hA.grow
 refine(wpIn_wide (n:=kk+2)).1 (wpIn_rangeFunc ?_);intro fn _
 obtain⟨rec,hrec⟩: ∃rec:LoopState->Option Code->Loop,rec=fun st pe=>{state:=st,pending:=pe,fn,tmps:=a.tmps,params:= #[p],assign,body,defers:=w.heap.size}:=⟨_,rfl⟩
 obtain⟨W1,hW1⟩: ∃W1,(w.alloc (.deferred (some []))).alloc (.loop (rec .ready none))=W1:=⟨_,rfl⟩
 have hsz:W1.heap.size=w.heap.size+2:=by rw[<-hW1];simp
 have hL1:W1.heap[D+1]?=some (.loop (rec .ready none)):=by
  rw[<-hW1,hDd];have:=World.alloc_heap_new (w.alloc (.deferred (some []))) (.loop (rec .ready none));rwa [bG] at this
 have hK1:W1.heap[D]?=some (.deferred (some [])):=by
  rw[<-hW1,hDd];exact(Below.heap_alloc _ _ _ (by simp)).trans (World.alloc_heap_new w _)
 have hsame1: ∀b,b<w.heap.size->W1.heap[b]?=w.heap[b]?:=fun b hb=>by
  rw[<-hW1];exact(Below.heap_alloc _ _ _ (by simp;omega)).trans (Below.heap_alloc _ _ _ hb)
 have hsys1:Sys w W1:=by rw[<-hW1];exact⟨rfl,rfl,rfl⟩
 have hzr0: ∀t b,zc t b-> ¬OU D b:=fun t b hb=>by have:=hA.zlt t b hb;rintro(e |e)<;>omega
 have hS1:Since w zc W1 zc:=⟨⟨by omega,hsame1,hsys1⟩,fun _ _ h=>h,fun _ _ h=> .inl h⟩;have hS0:Since w0 z0 w zc:=Ct hA
 let J:List α->World->AO->Prop:=fun pre W z=>ok pre/\JM G D w0 z0 th0 m a.tmps (I pre) nI W z/\W.heap[D+1]?=some (.loop (rec .ready none))/\W.heap[D]?=some (.deferred (some []))
 let Jx:List α->World->AO->Prop:=fun pre W z=> ∃e,X e pre/\JM G D w0 z0 th0 m a.tmps (Ix e pre) nX W z/\W.heap[D+1]?=some (.loop (rec .done (some (T4 e))))/\W.heap[D]?=some (.deferred (some []))
 have hJ1:J [] W1 zc:=by
  refine⟨hok,⟨by omega,th,zc,hA.epochG rfl hth (hu _) (fun i nd L hi hL hp=>?_) (by omega) (fun b hb _=>hsame1 b hb) hzr0 (fun _ _ h=>h) (fun _ _ h=> .inl h),⟨fun i x hi=>?_,hzr0,fun t b hb=>aY (hA.zlt t b hb) (by omega),hS0.trans hS1⟩,fun _ _ h=>h⟩,hL1,hK1⟩
  ·obtain⟨L',h1,_,h3⟩:=hA.nds i nd hi
   rw[hL] at h1;cases h1;obtain⟨k1,k2,k3⟩:=h3 hp;refine⟨k1,k2,by rintro(e |e)<;>omega,?_⟩
   rcases k3 with k3 |k3
   ·exact k3.elim
   ·exact k3
  ·obtain⟨y,hy,hr⟩:=hsl i x hi
   exact⟨y,hy,hr.on' ⟨fun _ _ h=>h,fun t b hb=>hsame1 b (hA.zlt t b hb)⟩⟩
 have Y:Yld eA all P kk (D+1) J Jx:=by
  refine⟨?_,?_,?_⟩
  ·rintro pre W W' z z' ⟨hk,hj,h1,h2⟩ s
   exact⟨hk,hj.step (hu _) h0 s.ext.size (fun b hb _=>s.ext.same b hb) s.ext.sys s.new,(s.ext.same _ hj.1).trans h1,(s.ext.same _ (by have:=hj.1;omega)).trans h2⟩
  ·rintro pre W W' z z' ⟨e,hX,hj,h1,h2⟩ s
   exact⟨e,hX,hj.step (hux _ _) h0 s.ext.size (fun b hb _=>s.ext.same b hb) s.ext.sys s.new,(s.ext.same _ hj.1).trans h1,(s.ext.same _ (by have:=hj.1;omega)).trans h2⟩
  ·rintro pre x v W z hpx ⟨hok1,⟨hD,th1,z1,hm,hb,hz⟩,h1,h2⟩ hzlt hv
   have hy:=run_yield (P:=P) (args:= #[v]) h1 (by rw[hrec];rfl);rw[hrec] at hy;refine⟨fn,_,assign,body,hy,roundIn_of_wpIn trivial ?_⟩
   have hs1:Sim (Qr D w0 G th0 W z1) N ⟨(p,eA x)::m,I pre,nI⟩ th1 z1 {tmps:=(#[p].zip #[v]).foldl (fun tmps (t,a)=>tmps.setIfInBounds t a) a.tmps,defers:=[]} W:=by
    refine⟨hm,by simp[htm],rfl,fun i y hi=>?_⟩
    have he:(#[p].zip #[v]).foldl (fun tmps (t,a)=>tmps.setIfInBounds t a) a.tmps=a.tmps.setIfInBounds p v:=by simp
    rw[he];simp only[lk] at hi
    by_cases hpi:p=i
    ·subst hpi
     rw[if_pos rfl] at hi;cases hi;exact⟨v,by rw[eD];rw[htm];exact hp,(hv.on' ⟨hz,fun _ _ _=>rfl⟩).pure th1⟩
    ·rw[if_neg hpi] at hi
     obtain⟨u,hu',hr⟩:=hb.slots i y hi;exact⟨u,by rw[dX hpi];exact hu',hr.later hm.pre⟩
   have hlets: ∀K:Act->World->Prop,¬LetsOut (Exit.then K (fun _ _ _=>False)):=by rintro K ⟨a,w,h⟩;exact h
   rw[<-hDd] at hassign hbody;refine hassign (Qr D w0 G th0 W z1) pre x hpx hok1 rfl rfl _ ⟨?_,fun id st th' z' a' w' h=>(by cases h.1),fun st th' z' a' w' h=>(by cases h.1),fun x' v' st th' z' w' h=>(by cases h.1)⟩ (hlets _) th1 z1 _ W hs1;rintro st th2 z2 a2 w2 ⟨_,hemb⟩ hs2;obtain⟨th3,z3,hs3⟩:=hemb _ _ _ _ hs2;have hb3:=hb.mem h0 hD hs3.mem;have hr3:w2.heap[D+1]?=some (.loop (rec .ready none)):=(hs3.mem.rd hD (.inr rfl)).trans h1;have hd3:w2.heap[D]?=some (.deferred (some [])):=(hs3.mem.rd hD (.inl rfl)).trans h2;have hD3:D+1<w2.heap.size:=(bR.1 hr3).1;obtain⟨w3,hw3⟩: ∃w3,w3=w2.putObj (D+1) (.loop {rec .ready none with state:= .busy}):=⟨_,rfl⟩
   have hsz3:w3.heap.size=w2.heap.size:=by rw[hw3];simp
   have hsm3: ∀b,b<w2.heap.size-> ¬OU D b->w3.heap[b]?=w2.heap[b]?:=by rw[hw3];exact Gj _ _ _ (.inr rfl)
   refine⟨w3,by rw[hw3];exact run_beginRound hr3 (by rw[hrec]),?_⟩
   have hsy3:Sys w2 w3:=by rw[hw3];exact⟨rfl,rfl,rfl⟩
   have hbz: ∀b,b<w2.heap.size->(∃t,z3 t b)\/b<w0.heap.size-> ¬OU D b:=fun b _ hk=>by
    rcases hk with ⟨t,hk⟩ |hk
    ·exact hb3.zrd t b hk
    ·rintro(e |e)<;>omega
   have hb4:Bd D w0 z0 th0 m a.tmps w3 z3:=hb3.go h0 hD3 (by omega) (fun b hlt hk=>hsm3 b hlt (hbz b hlt hk)) hsy3 (fun _ _ h=>h) (fun _ _ h=> .inl h);have hm4:=hs3.mem.epoch (w':=w3) (z':=z3) (huB pre x) h0 hD (by omega) hsm3 hb3.zrd (fun _ _ h=>h) (fun _ _ h=> .inl h);have hs4:Sim (Qr D w0 G th0 w3 z3) N (B pre x) th3 z3 a2 w3:=⟨hm4,hs3.size,hs3.dfs,fun i y hi=>let ⟨u,hu',hr⟩:=hs3.slots i y hi;⟨u,hu',hr.on' ⟨fun _ _ h=>h,fun t b hb=>hsm3 b (hb3.zlt t b hb) (hb3.zrd t b hb)⟩⟩⟩
   have hr4:w3.heap[D+1]?=some (.loop {rec .ready none with state:= .busy}):=by rw[hw3];exact World.putObj_heap_same hD3
   have hd4:w3.heap[D]?=some (.deferred (some [])):=by rw[hw3];exact(eE (by omega)).trans hd3
   have fin: ∀(o':List (Nat×Nd))(n':Nat)(st:AS)(th5:List NLoc)(z5:AO)(a5:Act)(w5:World),Km o'=true->Emb (Qr D w0 G th0 w3 z3) N st ⟨[],o',n'⟩->Sim (Qr D w0 G th0 w3 z3) N st th5 z5 a5 w5-> ∀jump:Option Code,
     (Instr.endRound (D+1) jump).run P w5= .ok (.bool jump.isNone) (w5.putObj (D+1) (.loop (rec (if jump.isNone then .ready else .done) jump)))/\
     (W.heap.size≤(w5.putObj (D+1) (.loop (rec (if jump.isNone then .ready else .done) jump))).heap.size/\ ∀t b,z t b->(w5.putObj (D+1) (.loop (rec (if jump.isNone then .ready else .done) jump))).heap[b]?=W.heap[b]?)/\
     JM G D w0 z0 th0 m a.tmps o' n' (w5.putObj (D+1) (.loop (rec (if jump.isNone then .ready else .done) jump))) z/\
     (w5.putObj (D+1) (.loop (rec (if jump.isNone then .ready else .done) jump))).heap[D+1]?=some (.loop (rec (if jump.isNone then .ready else .done) jump))/\
     (w5.putObj (D+1) (.loop (rec (if jump.isNone then .ready else .done) jump))).heap[D]?=some (.deferred (some [])):=by
    intro o' n' st th5 z5 a5 w5 hu' hemb5 hs5 jump;obtain⟨th6,z6,hs6⟩:=hemb5 _ _ _ _ hs5
    have hD4:D+1<w3.heap.size:=by omega
    have hb6:=hb4.mem h0 hD4 hs6.mem;have hr6:=(hs6.mem.rd hD4 (.inr rfl)).trans hr4;have hd6:=(hs6.mem.rd hD4 (.inl rfl)).trans hd4;have hD6:D+1<w5.heap.size:=(bR.1 hr6).1;generalize hob:(Obj.loop (rec (if jump.isNone then .ready else .done) jump))=ob;have hsm6: ∀b,b<w5.heap.size-> ¬OU D b->(w5.putObj (D+1) ob).heap[b]?=w5.heap[b]?:=Gj _ _ _ (.inr rfl)
    have hbz6: ∀b,b<w5.heap.size->(∃t,z6 t b)\/b<w0.heap.size-> ¬OU D b:=fun b _ hk=>by
     rcases hk with ⟨t,hk⟩ |hk
     ·exact hb6.zrd t b hk
     ·rintro(e |e)<;>omega
    have hrun:=run_endRound (P:=P) jump hr6;rw[hrec] at hrun hob;rw[<-hrec] at hob
    refine⟨?_,⟨?_,fun t b hb'=>?_⟩,⟨by simpa using hD6,th6,z6,hs6.mem.epoch hu' h0 hD4 (by simp) hsm6 hb6.zrd (fun _ _ h=>h) (fun _ _ h=> .inl h),
     hb6.go h0 hD6 (by simp) (fun b hlt hk=>hsm6 b hlt (hbz6 b hlt hk)) ⟨rfl,rfl,rfl⟩ (fun _ _ h=>h) (fun _ _ h=> .inl h),fun t b hb'=>hs6.mem.zin t b (hs3.mem.zin t b (hz t b hb'))⟩,
     World.putObj_heap_same hD6,(eE (by omega)).trans hd6⟩
    ·rw[hrun,<-hob,hrec]
    ·have e1:W.heap.size≤w2.heap.size:=hs3.mem.grow
     have e2:w3.heap.size≤w5.heap.size:=hs6.mem.grow;rw[World.putObj_size];omega
    ·have k1:=hz t b hb'
     have k2:w2.heap[b]?=W.heap[b]?:=hs3.mem.frame b (hb.zlt t b k1) (fun ho=>ho.1 t k1);have k3:=hs3.mem.zin t b k1;have k4:w5.heap[b]?=w3.heap[b]?:=hs6.mem.frame b (hb4.zlt t b k3) (fun ho=>ho.1 t k3);exact(hsm6 b (hb6.zlt t b (hs6.mem.zin t b k3)) (hb.zrd t b k1)).trans (k4.trans ((hsm3 b (hb3.zlt t b k3) (hb.zrd t b k1)).trans k2))
   refine hbody (Qr D w0 G th0 w3 z3) pre x hpx hok1 rfl rfl _ ⟨?_,?_,?_,?_⟩ (by rintro⟨a,w,h⟩;exact h) th3 z3 a2 w3 hs4
   ·rintro st th5 z5 a5 w5 (⟨_,hok5,hemb5⟩ |⟨hne,_⟩) hs5
    ·obtain⟨f1,f2,f3,f4,f5⟩:=fin _ _ st th5 z5 a5 w5 (hu _) hemb5 hs5 none
     exact⟨_,_,f1,f2,.inl ⟨rfl,hok5,f3,f4,f5⟩⟩
    ·exact absurd rfl hne
   ·rintro id st th5 z5 a5 w5 (⟨he,_⟩ |⟨_,hX,hemb5⟩) hs5
    ·cases he
    ·obtain⟨f1,f2,f3,f4,f5⟩:=fin _ _ st th5 z5 a5 w5 (hux _ _) hemb5 hs5 (some (.exit id))
     exact⟨_,_,f1,f2,.inr ⟨rfl,_,hX,f3,f4,f5⟩⟩
   ·rintro st th5 z5 a5 w5 (⟨he,_⟩ |⟨_,hX,hemb5⟩) hs5
    ·cases he
    ·obtain⟨f1,f2,f3,f4,f5⟩:=fin _ _ st th5 z5 a5 w5 (hux _ _) hemb5 hs5 (some .ret)
     exact⟨_,_,f1,f2,.inr ⟨rfl,_,hX,f3,f4,f5⟩⟩
   ·rintro x' v' st th5 z5 w5 (⟨he,_⟩ |⟨_,hX,_⟩)
    ·cases he
    ·exact absurd hX (hXn x' _)
 refine⟨w.heap.size+1,[{target:= .collected w.heap.size,args:= #[]}],W1,{target:= .fn (.func gf) lb,args:= #[.func (.yield (w.heap.size+1)) #[] #[]]},W1,gf,
  #[.func (.yield (w.heap.size+1)) #[] #[]]++lb,W1,?_,?_,fun _ _=>trivial,?_,fun h=>(by cases h),?_⟩
 ·rw[<-hW1,hrec];exact run_enterLoop_outer _ _ _ _ _
 ·simp only[resolve,hg]
  simp[go_sem]
 ·simp only[invoke]
  rw[ES hgf]
 ·rw[hdf]
  have hitr:=hit J Jx W1 zc (by rw[<-hDd];exact Y) (fun t b hb=>aY (hA.zlt t b hb) (by omega)) hS1 hJ1;refine hitr.mono ?_;rintro e W' ⟨⟨v,rfl⟩,z',_,(⟨hk,hj,hr,hd⟩ |⟨pre,hpre,e,hX,hj,hr,hd⟩)⟩
  ·refine⟨none,W'.putObj (D+1) (.loop {rec .ready none with state:= .exhausted}),by rw[<-hDd];have:=run_endLoop (P:=P) hr (by rw[hrec];simp);rw[hrec] at this ⊢;exact this,?_⟩
   rw[hDd] at hj hd;refine hdone _ z' hk (hj.step (hu _) (by omega) (by simp) (Gj _ _ _ (by rw[hDd];exact .inr rfl)) ⟨rfl,rfl,rfl⟩ (fun _ _ h=> .inl h)) ((eE (by omega)).trans hd)
  ·refine⟨some (T4 e),W'.putObj (D+1) (.loop {rec .done (some (T4 e)) with state:= .exhausted}),by rw[<-hDd];have:=run_endLoop (P:=P) hr (by rw[hrec];simp);rw[hrec] at this ⊢;exact this,?_⟩
   rw[hDd] at hj hd;refine(wpIn_wide).2 (hstop e pre _ z' hpre hX (hj.step (hux _ _) (by omega) (by simp) (Gj _ _ _ (by rw[hDd];exact .inr rfl)) ⟨rfl,rfl,rfl⟩ (fun _ _ h=> .inl h)) ((eE (by omega)).trans hd))
end
section
variable {P:Program} {G:List (Nat×List Value)} {N kk D:Nat} {w0 W w w':World} {z0 zc z z':AO} {th0 th:List NLoc} {m:List (Nat×AV)} {a:Act} {Q:Exit->Act->World->Prop} {o:List (Nat×Nd)} {n:Nat} {st:AS} {tmps:Array Value} {E:Env}
theorem Mem.env {E E':Env}(h:Mem E o n th z w)(e1:E'.w0=E.w0)(e2:E'.own=E.own)(e3:E'.z0=E.z0)(e4:E'.G=E.G)(e5:E'.th0=E.th0):Mem E' o n th z w:=by
 obtain⟨a1,a2,a3,a4,a5,a6⟩:=E;obtain⟨b1,b2,b3,b4,b5,b6⟩:=E';dsimp only at e1 e2 e3 e4 e5;subst e1 e2 e3 e4 e5;obtain⟨U,hU⟩:=h.uls;exact⟨h.len,h.nds,h.inj,h.zlt,h.grow,h.frame,h.zin,h.zout,h.zb,h.globs,h.pre,h.sys,U,hU.at_,hU.lt,hU.nz,hU.ow,hU.inj,hU.kn⟩
def EpM (D:Nat)(w0:World)(G:List (Nat×List Value))(th0:List NLoc)(W:World)(zc:AO):Env:={Qr D w0 G th0 W zc with ds:=[{target:= .collected D,args:= #[]}]}
theorem JM.sim (h:JM G D w0 z0 th0 m tmps o n W z)(hN:tmps.size=N): ∃th zc,Sim (EpM D w0 G th0 W zc) N ⟨m,o,n⟩ th zc ⟨tmps,[{target:= .collected D,args:= #[]}]⟩ W/\Bd D w0 z0 th0 m tmps W zc/\D+1<W.heap.size:=by
 obtain⟨hD,th,zc,hm,hb,hz⟩:=h;exact⟨th,zc,⟨hm.env rfl rfl rfl rfl rfl,hN,rfl,fun i x hi=>let ⟨y,hy,hr⟩:=hb.slots i x hi;⟨y,hy,hr.later hm.pre⟩⟩,hb,hD⟩
def toS (E:Env)(N:Nat)(S1:AS):AExit->AS->Prop
 | .normal,st=>Emb E N st S1
 |_,_=>False
theorem Kh {c:Code}{S1:AS}(hA:AWP P E N c st (toS E N S1))(h:Sim E N st th z a w)(hQ: ∀th' z' a' w',Sim E N S1 th' z' a' w'->Q .normal a' w'):c.wp P Q a w:=by
 refine hA Q ⟨?_,fun id st th z a w h=>h.elim,fun st th z a w h=>h.elim,fun v x st th z w h=>h.elim⟩ th z a w h;rintro st' th' z' a' w' he hs;obtain⟨th2,z2,h2⟩:=he _ _ _ _ hs;exact hQ _ _ _ _ h2
theorem HT {fn:Func}{y:AV}{own:Nat->Prop}(hs:Sim (EpM D w0 G th0 W zc) N st th z a w)(hu:Km st.o=true)(hb:Bd D w0 z0 th0 m tmps W zc)(h0:w0.heap.size≤D)(hD:D+1<W.heap.size)(hd:W.heap[D]?=some (.deferred (some [])))
  (hG: ∀g cs,(g,cs) ∈ G->z0 true g/\ ∀(j:Nat) v,cs[j]?=some v->w0.cell? ⟨g,j,none⟩=some v) (hz0: ∀t b,z0 t b->b<w0.heap.size)
  (hret: ∀E,E.th0.length=0-> ∃l,Lf P st fn.results.toList=some l/\N4 E N st (A8 l) [] 0 y):
  bodyPostM Fence.wide kk P fn (fun e w'=> ∃v y' o' n' th' z',((e= .returned v/\Is y [] 0 y' o' n')\/(e= .panicked [{v:=v,recovered:=false}]/\No y' o' n'))/\Mem ⟨w0,own,z0,G,[],[]⟩ o' n' th' z' w'/\Rep w' z' th' y' v) .ret a w:=by
 have hm:Mem (Qr D w0 G th0 W zc) st.o st.n th z w:=hs.mem.env rfl rfl rfl rfl rfl;have hb2:=hb.mem h0 hD hm;have hd2:w.heap[D]?=some (.deferred (some [])):=(hm.rd hD (.inl rfl)).trans hd;have hg:W.heap.size≤w.heap.size:=hm.grow
 have hD2:D+1<w.heap.size:=by omega
 have hsm: ∀b,b<w.heap.size-> ¬OU D b->(w.putObj D (.deferred none)).heap[b]?=w.heap[b]?:=Gj _ _ _ (.inl rfl)
 have hnd: ∀i nd L,lk st.o i=some nd->th[i]?=some L->L.ph=false->L.b<w.heap.size/\(∀t,¬z t L.b)/\ ¬OU D L.b/\w0.heap.size≤L.b:=by
  intro i nd L hi hL hp;obtain⟨L',h1,_,h3⟩:=hm.nds i nd hi;rw[hL] at h1;cases h1;obtain⟨k1,k2,k3⟩:=h3 hp;refine⟨k1,k2,?_⟩
  rcases k3 with k3 |k3
  ·exact k3.2
  ·have k3:W.heap.size≤L.b:=k3
   exact⟨by rintro(e |e)<;>omega,by omega⟩
 have hb3:Bd D w0 z0 th0 m tmps (w.putObj D (.deferred none)) z:=hb2.go h0 hD2 (by simp) (fun b hlt hk=>hsm b hlt (by
  rcases hk with ⟨t,hk⟩ |hk
  ·exact hb2.zrd t b hk
  ·rintro(e |e)<;>omega)) ⟨rfl,rfl,rfl⟩ (fun _ _ h=>h) (fun _ _ h=> .inl h)
 have hm3:=hm.epochG (G:=G) (th0:=[]) (D:=D) (w0:=w0) (w':=w.putObj D (.deferred none)) (z':=z) rfl (fun i L h=>by simp at h) hu hnd (by simp) hsm hb2.zrd (fun _ _ h=>h) (fun _ _ h=> .inl h);have hs3:Sim (Qr D w0 G [] (w.putObj D (.deferred none)) z) N st th z ⟨a.tmps,[]⟩ (w.putObj D (.deferred none)):=
  ⟨hm3,hs.size,rfl,fun i x hi=>let ⟨u,hu',hr⟩:=hs.slots i x hi;⟨u,hu',hr.on' ⟨fun _ _ h=>h,fun t b hb'=>hsm b (hb2.zlt t b hb') (hb2.zrd t b hb')⟩⟩⟩
 obtain⟨l,hl,he⟩:=hret (Qr D w0 G [] (w.putObj D (.deferred none)) z) rfl;obtain⟨v,hv,hrun⟩:=FU (P:=P) hs3 hl;obtain⟨th4,z4,hm4,hr4⟩:=he _ _ _ _ v hs3 hv;have hth:th4=[]:=bV.1 hm4.len;subst hth;have hb3':Bd D w0 z0 [] [] #[] (w.putObj D (.deferred none)) z:=⟨fun i x hi=>(by simp[lk] at hi),hb3.zrd,hb3.zlt,hb3.since⟩;have hb4:=hb3'.mem h0 (by simpa using hD2) hm4;have hdf:a.defers=[{target:= .collected D,args:= #[]}]:=hs.dfs;show LeavesInM Fence.wide kk P fn a.tmps _ a.defers .returning w;rw[hdf];refine⟨by simp,.inl ⟨D,_,rfl,run_takeDeferred hd2,?_⟩⟩;refine⟨v,hrun,v,y,[],0,[],z4,.inl ⟨rfl,rfl,rfl,rfl⟩,?_,hr4⟩;have hsc:=hb4.since;refine⟨rfl,fun i nd hi=>by simp[lk] at hi,fun i j x y L M hi=>by simp[lk] at hi,hb4.zlt,hsc.ext.size,fun b hb _=>hsc.ext.same b hb,hsc.sub,fun b hb=>?_,fun b hb=>?_,fun g cs hg=>?_,fun i L hi=>by simp at hi,hsc.ext.sys,LP rfl⟩
 ·rcases hsc.new _ _ hb with q |q
  ·exact .inl q
  ·exact .inr (.inr q.2.1)
 ·rcases hsc.new _ _ hb with q |q
  ·exact q
  ·cases q.1
 ·obtain⟨h1,h2⟩:=hG g cs hg
  exact⟨hsc.sub _ _ h1,fun j v hv=>(BO (hsc.ext.same g (hz0 _ _ h1)) j).trans (h2 j v hv)⟩
theorem Con.res {f:Nat}{xs:List AV}{o o':List (Nat×Nd)}{n n':Nat}{y y':AV}{R:AV->List (Nat×Nd)->Nat->Prop}(hc:Con P G f xs o n (Is y o' n') R)(h: ∀(w:World)(z:AO)(th:List NLoc)(v:Value),Rep w z th y v->Rep w z th y' v):Con P G f xs o n (Is y' o' n') R:=by
 refine⟨hc.1,fun w th z own vs h1 h2 h3=>(hc.2 w th z own vs h1 h2 h3).mono ?_⟩;rintro e w' ⟨v,u,o2,n2,th',z',hh,hm,hr⟩
 rcases hh with ⟨rfl,rfl,rfl,rfl⟩ |⟨rfl,hR⟩
 ·exact⟨v,y',_,_,th',z',.inl ⟨rfl,rfl,rfl,rfl⟩,hm,h _ _ _ _ hr⟩
 ·exact⟨v,u,o2,n2,th',z',.inr ⟨rfl,hR⟩,hm,hr⟩
theorem RE {w:World}{z:AO}{th:List NLoc}{t:Bool}{k:Nat}{x:AV}{v:Value}(h:Rep w z th (.tup [.r (.slice none 0 0),x]) v):Rep w z th (.tup [.ro t k [],x]) v:=by
 cases h with
 |tup _ c ys hl hx=>
  refine .tup _ _ ys hl (fun i u y h1 h2=>?_)
  cases i with
  |zero=>
   have:=hx 0 _ y rfl h2;cases h1
   cases this with
   |r=>exact .nil _ _ _ _ _
  |succ i=>exact hx (i+1) u y h1 h2
end
attribute [local irreducible] AWP DU
theorem Nb {P:Program}{w:World}{z:AO}{t:Bool}{l:List UInt8}{v:Value}(h:Rep w z [] (.ro t 1 (l.map AC)) v):(Extern.Bytes.bytesOf v).run P w= .ok ⟨l.toArray⟩ w:=by
 obtain⟨ad,c,rfl,hc,hh⟩:=h.ro_inv
 rcases hh with h1 |⟨b,o,rfl,hz,hcell⟩
 ·have:l=[]:=by simpa using h1
  subst this
  cases ad<;>rfl
 ·have key:=Lib.run_loadBytesX (P:=P) (w:=w) (l.map fun x=>(x.toNat:Int)) ⟨b,o,none⟩ .empty (by
   intro j x hx;rw[List.getElem?_map,aF] at hx;obtain⟨y,hy,rfl⟩:=hx;obtain⟨_,h3⟩:=hcell j (AC y) (by rw[List.getElem?_map,hy];rfl);obtain⟨u,hu,hr,_⟩:=h3 0 _ rfl;obtain rfl:=hr.r_inv
   rw[Cc];simpa using hu)
  have e1:Lib.bytesOf (l.map fun x=>(x.toNat:Int))=l:=by
   rw[Lib.bytesOf,fV];refine(fN (fun x _=>?_)).trans (List.map_id _);show UInt8.ofNat ((x.toNat:Int).toNat)=x;rw[Int.toNat_natCast,UInt8.ofNat_toNat]
  rw[e1,List.length_map] at key;show(Extern.Bytes.loadBytes ⟨b,o,none⟩ (l.map AC).length .empty).run P w=_;rw[List.length_map,key];simp
theorem VI {w:World}{z:AO}{t u:Bool}{l m:List UInt8}{a b:Value}(ha:Rep w z [] (.ro t 1 (l.map AC)) a)(hb:Rep w z [] (.ro u 1 (m.map AC)) b):
  (callFunc 139 #[a,b]).run prog w= .ok (.value (.int .i64 (Lib.compareBytes l m))) w:=by
 have hf:prog.funcs[139]?=some f139:=by kernel_rfl
 rw[run_callFunc_extern hf (by kernel_rfl) (by kernel_rfl) (by kernel_rfl) (e:=Extern.BytealgCompare.compare) (by kernel_rfl)]
 have:(Extern.BytealgCompare.compare #[a,b]).run prog w= .ok (.int .i64 (Lib.compareBytes l m)) w:=by
  show((Extern.Bytes.bytesOf a) >>= fun x=>(Extern.Bytes.bytesOf b) >>= fun y=>pure (goInt (Extern.BytealgCompare.cmp x y))).run _ w=_;simp only[aQ,Nb ha,Nb hb,aL,bT,Lib.cmp_eq]
  rfl
 rw[this];rfl
theorem WP {w:World}{z:AO}{t u:Bool}{l m:List UInt8}{a b:Value}(ha:Rep w z [] (.ro t 1 (l.map AC)) a)(hb:Rep w z [] (.ro u 1 (m.map AC)) b):
  Calls prog 97 #[a,b] w fun e w'=>e= .returned (.int .i64 (Lib.compareBytes l m))/\Below w.heap.size w w':=by
 have h75:=VI ha hb
 go_enter func97,ntmps97
 go_wp2
 go_ret
 exact⟨rfl,bE _ _⟩
theorem DF (G:GL)(t u:Bool)(l m:List UInt8):Con prog G 97 [.ro t 1 (l.map AC),.ro u 1 (m.map AC)] [] 0 (Is (.r (.int .i64 (Lib.compareBytes l m))) [] 0) No:=
 Al (by kernel_rfl) (fun w z vs hz hr hG=>by
  obtain⟨v,r,rfl,h1,h2⟩:=hr.head;obtain⟨v2,r2,rfl,h3,h4⟩:=h2.head;obtain rfl:=h4.of_nil
  exact WP h1 h3)
def EK (l:List UInt8):AV:=match l with
 | []=> .r (.slice none 0 0)
 |x::r=> .ro true 1 ((x::r).map AC)
theorem Ml (G:GL)(t:Bool)(x:UInt8)(l:List UInt8)(hl:l.length≤1048576):Con prog G 98 [.ro t 1 ((x::l).map AC)] [] 0 (Is (.ro true 1 ((x::l).map AC)) [] 0) No:=by
 refine cJ func98 fun E hG hE=>?_;subst hG;simp only[AX];(repeat' (first |refine A0 ?_ |refine A3 ?_ |((refine sR (fun K kp=>?_));simp(disch:=omega) only[go_sem];(repeat' (first |(refine K _ ?_;clear K kp) |(with_reducible refine And.intro ?_ ?_) |omega))) |refine A1 rfl ?_ |refine A5 ?_));(refine rJ results98 ?_;refine AG (by simp only[A8];simp(disch:=omega) only[go_sem];rfl) ?_;refine(AE hE (by simp) ?_).s;simp[A8,ren,renL])
theorem DE (G:GL)(t:Bool)(l:List UInt8)(hl:l.length≤1048576):Con prog G 67 [.ro t 1 (l.map AC)] [] 0 (Is (.ro true 1 (l.map AC)) [] 0) No:=by
 refine cJ func67 fun E hG hE=>?_;subst hG;simp only[AX];(repeat' (first |refine A0 ?_ |refine A4 ?_ |((refine sR (fun K kp=>?_));simp(disch:=omega) only[go_sem];(repeat' (refine K _ ?_;clear K kp)))));(refine AWP.emb (BY 3 5 1 ?_) ?_;(·rfl);dsimp only);refine AB (fun k:Nat=>⟨[(4,.r (.int .i64 k)),(3,.s 0 0 k),(0,.ro t 1 (l.map AC))],[(0,.lst 5 1 ((l.take k).map AC))],1⟩) (fun k=>k≤l.length) (fun k=>l.length - k) 0 ?_ ?_ ?_
 ·simp
 ·(exact iK hE [0])
 intro k hk
 have hz:(l.take k).length=k:=by rw[aS];omega
 by_cases hlt:k<l.length
 ·obtain⟨x,hx⟩: ∃x,l[k]?=some x:=⟨l[k],by simp[hlt]⟩
  have htk:l.take (k+1)=l.take k++[x]:=by rw[aV,hx];rfl
  (repeat' (first |refine A0 ?_ |refine A4 ?_ |refine A3 ?_ |((refine sR (fun K kp=>?_));simp(disch:=omega) only[go_sem,hx,AC];(repeat' (first |(refine K _ ?_;clear K kp) |(with_reducible refine And.intro ?_ ?_) |omega))) |((refine A6 rfl (fun h=>?_) (fun h=>?_)<;>try simp only[Af] at h)<;>(try (exfalso;omega)))));(refine BF (k+1) ?_ ?_;rotate_left;(·(refine AJ hE [2] rfl ?_ ?_<;>simp[Ai,AY,lk,ren,renL,AA,AU,AC,htk,cM,dK]<;>(try omega))));omega
 ·obtain rfl:k=l.length:=by omega
  rw[bZ];(repeat' (first |refine A0 ?_ |refine A7 ?_ |((refine sR (fun K kp=>?_));simp(disch:=omega) only[go_sem];(repeat' (refine K _ ?_;clear K kp))) |((refine A6 rfl (fun h=>?_) (fun h=>?_)<;>try simp only[Af] at h)<;>(try (exfalso;omega))) |refine A5 ?_));(refine rJ results67 ?_;refine AG (by simp only[A8];simp(disch:=omega) only[go_sem];rfl) ?_;refine(AE hE (by simp) ?_).s;simp[A8,ren,renL])
theorem Ar (G:GL)(t u:Bool)(l m:List UInt8):Con prog G 36 [.ro t 1 (l.map AC),.ro u 1 (m.map AC)] [] 0 (Is (.r (.bool (Op.bytesLess l m))) [] 0) No:=by
 refine cJ func36 fun E hG hE=>?_;subst hG;simp only[AX];(repeat' (first |refine A0 ?_ |((refine sR (fun K kp=>?_));simp(disch:=omega) only[go_sem,Fz];(repeat' (refine K _ ?_;clear K kp))) |refine A5 ?_));(refine rJ results36 ?_;refine eN hE ?_;simp[A8,ren,renL])
 all_goals simp[cW]
end Go.AM
namespace Go.AM
abbrev Ky:=List UInt8
def BI (a b:Ky):Bool:=Go.Op.bytesLess a b
structure PG where
 leaf:Bool
 keys:List Ky
 kids:List Int
 high:Ky
 next:Int
instance:Inhabited PG:=⟨⟨true,[],[],[],-1⟩⟩
def pg (ps:List PG)(i:Nat):PG:=ps.getD i default
def AF (ps:List PG)(i:Nat):List Nat:=if (pg ps i).leaf then [] else (pg ps i).kids.map Int.toNat
def HZ (p:PG)(k:Nat)(low:Ky):Ky:=if k=0 then low else p.keys.getD (k - 1) []
def Fl (p:PG)(k:Nat)(high:Ky):Ky:=if k<p.keys.length then p.keys.getD k [] else high
def BV (p:PG)(low:Ky):Bool:=match p.keys with
 | []=>true
 |k::_=> !BI k low
def Dz (ps:List PG):Nat->Nat->Ky->Ky->Prop
 |0,i,low,high=>(pg ps i).leaf=true/\(pg ps i).high=high/\BV (pg ps i) low=true
 |d+1,i,low,high=>(pg ps i).leaf=false/\(pg ps i).high=high/\BV (pg ps i) low=true/\ ∀(k kid:Nat),(AF ps i)[k]?=some kid->Dz ps d kid (HZ (pg ps i) k low) (Fl (pg ps i) k high)
def Cj (ps:List PG):Nat->List Nat->List Nat
 |0,l=>l
 |j+1,l=>Cj ps j (l.flatMap (AF ps))
def pre (ps:List PG):Nat->Nat->List Nat
 |0,i=>[i]
 |d+1,i=>i::(AF ps i).flatMap (pre ps d)
theorem CC (ps:List PG): ∀(j:Nat)(a b:List Nat),Cj ps j (a++b)=Cj ps j a++Cj ps j b
 |0,_,_=>rfl
 |j+1,a,b=>by simp only[Cj,cX,CC ps j]
theorem EY (ps:List PG): ∀(j:Nat),Cj ps j []=[]
 |0=>rfl
 |j+1=>by simp only[Cj,List.flatMap_nil,EY ps j]
theorem EX (ps:List PG)(j i:Nat):Cj ps (j+1) [i]=Cj ps j (AF ps i):=by simp[Cj]
theorem Ei {ps:List PG}{i:Nat}(h:(pg ps i).leaf=true):AF ps i=[]:=by simp[AF,h]
theorem Nx {ps:List PG}: ∀ {d i:Nat}{low high:Ky},Dz ps d i low high-> ∀j,d<j->Cj ps j [i]=[]
 |0,i,low,high,h,j,hj=>by
  obtain⟨j,rfl⟩: ∃k,j=k+1:=⟨j - 1,by omega⟩;rw[EX,Ei h.1,EY]
 |d+1,i,low,high,h,j,hj=>by
  obtain⟨j,rfl⟩: ∃k,j=k+1:=⟨j - 1,by omega⟩;rw[EX]
  have hs: ∀x ∈ AF ps i,Cj ps j [x]=[]:=fun x hx=>by
   obtain⟨k,hk⟩:=aO.1 hx;exact Nx (h.2.2.2 k x hk) j (by omega)
  generalize AF ps i=l at hs
  induction l with
  |nil=>exact EY ps j
  |cons x r ih=>
   rw[show x::r=[x]++r from rfl,CC,hs x (by simp),ih fun y hy=>hs y (by simp[hy])];rfl
structure WS where
 met:List Nat
 rows:List (List Nat)
def BP (rows:List (List Nat))(level i:Nat):List (List Nat):=if level<rows.length then rows.set level (rows.getD level []++[i]) else rows++[[i]]
def EE (rec:Nat->Ky->Ky->Nat->WS->Int×WS)(p:PG)(low high:Ky)(lev:Nat):Nat->Int->WS->List Nat->Int×WS
 |_,deep,st,[]=>(deep,st)
 |k,deep,st,kid::r=>if (rec kid (HZ p k low) (Fl p k high) lev st).1<0\/(deep≠ -2/\(rec kid (HZ p k low) (Fl p k high) lev st).1≠deep) then (-1,(rec kid (HZ p k low) (Fl p k high) lev st).2)
  else EE rec p low high lev (k+1) (rec kid (HZ p k low) (Fl p k high) lev st).1 (rec kid (HZ p k low) (Fl p k high) lev st).2 r
def Cm (ps:List PG):Nat->Nat->Ky->Ky->Nat->WS->Int×WS
 |0,_,_,_,_,st=>(-1,st)
 |f+1,i,low,high,level,st=>if i ∈ st.met then (-1,st) else
  if (pg ps i).high≠high\/BV (pg ps i) low=false then (-1,⟨st.met++[i],st.rows⟩) else
  if (pg ps i).leaf=true then ((level:Int),⟨st.met++[i],BP st.rows level i⟩) else
  EE (Cm ps f) (pg ps i) low high (level+1) 0 (-2) ⟨st.met++[i],BP st.rows level i⟩ (AF ps i)
theorem IW (rows:List (List Nat))(level i:Nat)(h:level≤rows.length):(BP rows level i).length=max rows.length (level+1):=by
 unfold BP;split
 ·rw[List.length_set];omega
 ·rw[List.length_append];simp;omega
theorem N2 (rows:List (List Nat))(level i:Nat)(h:level≤rows.length)(m:Nat):(BP rows level i).getD m []=rows.getD m []++if m=level then [i] else []:=by
 unfold BP;simp only[aH];split
 ·rename_i hl
  rw[dQ]
  by_cases hm:level=m
  ·subst hm;simp[hl]
  ·rw[if_neg hm,if_neg (cL hm),List.append_nil]
 ·rename_i hl
  obtain rfl:level=rows.length:=by omega
  by_cases hm:m=rows.length
  ·subst hm;simp
  ·rw[if_neg hm,List.append_nil]
   by_cases hlt:m<rows.length
   ·rw[bF hlt]
   ·rw[bO (by simp;omega),bO (by omega)]
structure WalkOK (ps:List PG)(d i level:Nat)(low high:Ky)(st:WS)(r:Int×WS):Prop where
 deep:r.1=((level+d:Nat):Int)
 good:Dz ps d i low high
 met:r.2.met=st.met++pre ps d i
 nodup:(st.met++pre ps d i).Nodup
 len:r.2.rows.length=max st.rows.length (level+d+1)
 rows: ∀m,r.2.rows.getD m []=st.rows.getD m []++if level≤m then Cj ps (m - level) [i] else []
structure KidsOK (ps:List PG)(p:PG)(d lev k:Nat)(low high:Ky)(l:List Nat)(st:WS)(r:Int×WS):Prop where
 deep:r.1=((lev+d:Nat):Int)
 good: ∀(j kid:Nat),l[j]?=some kid->Dz ps d kid (HZ p (k+j) low) (Fl p (k+j) high)
 met:r.2.met=st.met++l.flatMap (pre ps d)
 nodup:(st.met++l.flatMap (pre ps d)).Nodup
 len:r.2.rows.length=max st.rows.length (lev+d+1)
 rows: ∀m,r.2.rows.getD m []=st.rows.getD m []++if lev≤m then Cj ps (m - lev) l else []
section
variable {ps:List PG} {rec:Nat->Ky->Ky->Nat->WS->Int×WS} {p:PG} {low high:Ky} {lev:Nat}
theorem MB (hrec: ∀i low high st,lev≤st.rows.length->st.met.Nodup->0≤(rec i low high lev st).1-> ∃d,WalkOK ps d i lev low high st (rec i low high lev st)):
  ∀(l:List Nat)(k d0:Nat)(deep:Int)(st:WS),lev≤st.rows.length->st.met.Nodup->(deep= -2\/(deep=((lev+d0:Nat):Int)/\lev+d0+1≤st.rows.length))->(deep= -2->l≠[])->0≤(EE rec p low high lev k deep st l).1->
   ∃d,(deep≠ -2->d=d0)/\KidsOK ps p d lev k low high l st (EE rec p low high lev k deep st l)
 | [],k,d0,deep,st,hr,hn,hd,he,h=>by
   rcases hd with hd |⟨hd,hl⟩
   ·exact absurd rfl (he hd)
   ·exact⟨d0,fun _=>rfl,hd,fun j kid hj=>by simp at hj,by simp[EE],by simpa using hn,by simp only[EE];omega,fun m=>by simp[EE,EY]⟩
 |kid::r,k,d0,deep,st,hr,hn,hd,he,h=>by
  rw[EE] at h ⊢
  by_cases hc:(rec kid (HZ p k low) (Fl p k high) lev st).1<0\/(deep≠ -2/\(rec kid (HZ p k low) (Fl p k high) lev st).1≠deep)
  ·rw[if_pos hc] at h;simp at h
  ·rw[if_neg hc] at h ⊢
   obtain⟨d,w⟩:=hrec kid (HZ p k low) (Fl p k high) st hr hn (by omega)
   have hdd:deep≠ -2->d=d0:=fun h1=>by
    have:=w.deep
    rcases hd with hd |⟨hd,_⟩
    ·exact absurd hd h1
    ·omega
   generalize rec kid (HZ p k low) (Fl p k high) lev st=x at h w ⊢;obtain⟨d',h2,K⟩:=MB hrec r (k+1) d x.1 x.2 (by rw[w.len];omega) (by rw[w.met];exact w.nodup) (.inr ⟨w.deep,by rw[w.len];omega⟩) (fun h1=>by have:=w.deep;omega) h;obtain rfl:d'=d:=h2 (by have:=w.deep;omega);refine⟨d',hdd,K.deep,fun j kid' hj=>?_,?_,?_,?_,fun m=>?_⟩
   ·cases j with
    |zero=>simp at hj;subst hj;exact w.good
    |succ j=>
     have:=K.good j kid' (by simpa using hj)
     rwa [show k+1+j=k+(j+1) by omega] at this
   ·rw[K.met,w.met,cF,bB]
   ·have:=K.nodup
    rw[w.met] at this;rw[cF,<-bB];exact this
   ·rw[K.len,w.len];omega
   ·rw[K.rows,w.rows]
    by_cases hm:lev≤m
    ·rw[if_pos hm,if_pos hm,if_pos hm,bB,show kid::r=[kid]++r from rfl,CC]
    ·rw[if_neg hm,if_neg hm,if_neg hm,bB];rfl
theorem Nu {d:Nat}(hrec: ∀i low high st,lev≤st.rows.length->Dz ps d i low high->(st.met++pre ps d i).Nodup->0≤(rec i low high lev st).1)
  (hs: ∀i low high st,lev≤st.rows.length->st.met.Nodup->0≤(rec i low high lev st).1-> ∃d,WalkOK ps d i lev low high st (rec i low high lev st))
  (hu: ∀i low high low' high' d',Dz ps d i low high->Dz ps d' i low' high'->d'=d):
  ∀(l:List Nat)(k:Nat)(deep:Int)(st:WS),lev≤st.rows.length->(deep= -2\/deep=((lev+d:Nat):Int))->(deep= -2->l≠[])->(st.met++l.flatMap (pre ps d)).Nodup->
   (∀(j kid:Nat),l[j]?=some kid->Dz ps d kid (HZ p (k+j) low) (Fl p (k+j) high))->0≤(EE rec p low high lev k deep st l).1
 | [],k,deep,st,hr,hd,he,hn,hg=>by
   rcases hd with hd |hd
   ·exact absurd rfl (he hd)
   ·simp only[EE,hd];omega
 |kid::r,k,deep,st,hr,hd,he,hn,hg=>by
  rw[EE];rw[cF,<-bB] at hn;have hn1:=(dR.1 hn).1;have h1:=hrec kid (HZ p k low) (Fl p k high) st hr (hg 0 kid rfl) hn1;obtain⟨d',w⟩:=hs kid (HZ p k low) (Fl p k high) st hr (dR.1 hn1).1 h1;obtain rfl:d'=d:=hu _ _ _ _ _ _ (hg 0 kid rfl) w.good;generalize rec kid (HZ p k low) (Fl p k high) lev st=x at h1 w ⊢;have hx:=w.deep;rw[if_neg (by omega)];refine Nu hrec hs hu r (k+1) x.1 x.2 (by rw[w.len];omega) (.inr hx) (fun h=>by omega) (by rw[w.met];exact hn) fun j kid' hj=>?_;have:=hg (j+1) kid' (by simpa using hj)
  rwa [show k+(j+1)=k+1+j by omega] at this
end
theorem Fp {ps:List PG}(hk: ∀i,(pg ps i).leaf=false->AF ps i≠[]): ∀(d i:Nat)(low high low' high':Ky)(d':Nat),Dz ps d i low high->Dz ps d' i low' high'->d'=d
 |0,i,low,high,low',high',0,_,_=>rfl
 |0,i,low,high,low',high',d'+1,h,h'=>by have:=h.1;rw[h'.1] at this;cases this
 |d+1,i,low,high,low',high',0,h,h'=>by have:=h.1;rw[h'.1] at this;cases this
 |d+1,i,low,high,low',high',d'+1,h,h'=>by
  obtain⟨x,r,hx⟩: ∃x r,AF ps i=x::r:=by
   have:=hk i h.1
   cases hc:AF ps i with
   |nil=>exact absurd hc this
   |cons x r=>exact⟨x,r,rfl⟩
  have h0:(AF ps i)[0]?=some x:=by rw[hx];rfl
  rw[Fp hk d x _ _ _ _ d' (h.2.2.2 0 x h0) (h'.2.2.2 0 x h0)]
theorem Em {ps:List PG}(hk: ∀i,(pg ps i).leaf=false->AF ps i≠[]): ∀(f i:Nat)(low high:Ky)(level:Nat)(st:WS),level≤st.rows.length->st.met.Nodup->0≤(Cm ps f i low high level st).1-> ∃d,WalkOK ps d i level low high st (Cm ps f i low high level st)
 |0,i,low,high,level,st,hr,hn,h=>by simp[Cm] at h
 |f+1,i,low,high,level,st,hr,hn,h=>by
  rw[Cm] at h ⊢
  by_cases h1:i ∈ st.met
  ·rw[if_pos h1] at h;simp at h
  rw[if_neg h1] at h ⊢
  by_cases h2:(pg ps i).high≠high\/BV (pg ps i) low=false
  ·rw[if_pos h2] at h;simp at h
  rw[if_neg h2] at h ⊢
  have h2a:(pg ps i).high=high:=by
   by_cases hx:(pg ps i).high=high
   ·exact hx
   ·exact absurd (.inl hx) h2
  have h2b:BV (pg ps i) low=true:=by
   cases hx:BV (pg ps i) low
   ·exact absurd (.inr hx) h2
   ·rfl
  have hn1:(st.met++[i]).Nodup:=dR.2 ⟨hn,by simp,fun a ha b hb=>by simp at hb;subst hb;rintro rfl;exact h1 ha⟩
  by_cases h3:(pg ps i).leaf=true
  ·rw[if_pos h3]
   refine⟨0,rfl,⟨h3,h2a,h2b⟩,rfl,hn1,?_,fun m=>?_⟩
   ·exact IW _ _ _ hr
   ·show(BP st.rows level i).getD m []=_
    rw[N2 _ _ _ hr]
    congr 1
    by_cases hm:m=level
    ·subst hm;simp[Cj]
    ·rw[if_neg hm]
     by_cases hle:level≤m
     ·obtain⟨j,hj⟩: ∃j,m - level=j+1:=⟨m - level - 1,by omega⟩
      rw[if_pos hle,hj,EX,Ei h3,EY]
     ·rw[if_neg hle]
  ·rw[if_neg h3] at h ⊢
   have h3':(pg ps i).leaf=false:=by simpa using h3
   have hlen:=IW st.rows level i hr;obtain⟨d,_,K⟩:=MB (ps:=ps) (rec:=Cm ps f) (p:=pg ps i) (low:=low) (high:=high) (lev:=level+1) (fun i low high st hr hn h=>Em hk f i low high (level+1) st hr hn h) (AF ps i) 0 0 (-2) ⟨st.met++[i],BP st.rows level i⟩ (by simp only[hlen];omega) hn1 (.inl rfl) (fun _=>hk i h3') h;refine⟨d+1,?_,⟨h3',h2a,h2b,fun k kid hkk=>?_⟩,?_,?_,?_,fun m=>?_⟩
   ·rw[K.deep];omega
   ·have:=K.good k kid hkk
    rwa [Nat.zero_add] at this
   ·rw[K.met,pre,bB];rfl
   ·have:=K.nodup
    rw[pre];simpa using this
   ·rw[K.len,hlen];omega
   ·rw[K.rows,N2 _ _ _ hr,bB]
    congr 1
    by_cases hm:m=level
    ·subst hm;rw[if_pos rfl,if_neg (by omega),if_pos (Nat.le_refl _),eF];rfl
    ·rw[if_neg hm]
     by_cases hle:level≤m
     ·obtain⟨j,hj⟩: ∃j,m - level=j+1:=⟨m - level - 1,by omega⟩
      rw[if_pos hle,if_pos (by omega),hj,EX,show m - (level+1)=j by omega];rfl
     ·rw[if_neg hle,if_neg (by omega)];rfl
theorem NP {ps:List PG}(hk: ∀i,(pg ps i).leaf=false->AF ps i≠[]): ∀(f d i:Nat)(low high:Ky)(level:Nat)(st:WS),level≤st.rows.length->d<f->Dz ps d i low high->(st.met++pre ps d i).Nodup->0≤(Cm ps f i low high level st).1
 |0,d,i,low,high,level,st,hr,hf,hg,hn=>by omega
 |f+1,0,i,low,high,level,st,hr,hf,hg,hn=>by
  rw[Cm];have h1:i ∉ st.met:=fun h=>(dR.1 hn).2.2 i h i (by simp[pre]) rfl;rw[if_neg h1,if_neg (by rw[hg.2.1,hg.2.2];simp),if_pos hg.1];exact Int.natCast_nonneg _
 |f+1,d+1,i,low,high,level,st,hr,hf,hg,hn=>by
  rw[Cm];have h1:i ∉ st.met:=fun h=>(dR.1 hn).2.2 i h i (by simp[pre]) rfl;rw[if_neg h1,if_neg (by rw[hg.2.1,hg.2.2.1];simp),if_neg (by rw[hg.1];simp)];have hlen:=IW st.rows level i hr;refine Nu (d:=d) (fun i low high st hr hg hn=>NP hk f d i low high (level+1) st hr (by omega) hg hn) (fun i low high st hr hn h=>Em hk f i low high (level+1) st hr hn h) (fun i a b a' b' d' h h'=>Fp hk d i a b a' b' d' h h') (AF ps i) 0 (-2) _ (by simp only[hlen];omega) (.inl rfl) (fun _=>hk i hg.1) ?_ fun j kid hj=>?_
  ·simpa[pre] using hn
  ·rw[Nat.zero_add];exact hg.2.2.2 j kid hj
theorem Im {ps:List PG}(hk: ∀i,(pg ps i).leaf=false->AF ps i≠[]): ∀(d i:Nat)(low high:Ky),Dz ps d i low high->d<(pre ps d i).length
 |0,i,low,high,h=>by simp[pre]
 |d+1,i,low,high,h=>by
  obtain⟨x,r,hx⟩: ∃x r,AF ps i=x::r:=by
   have:=hk i h.1
   cases hc:AF ps i with
   |nil=>exact absurd hc this
   |cons x r=>exact⟨x,r,rfl⟩
  have h0:(AF ps i)[0]?=some x:=by rw[hx];rfl
  have:=Im hk d x _ _ (h.2.2.2 0 x h0);simp only[pre,hx,cF,List.length_cons,List.length_append];omega
def E2 (l:List Nat)(k:Nat):Int:=match l[k+1]? with
 |some j=>(j:Int)
 |none=> -1
def JN (ps:List PG)(l:List Nat):Prop:= ∀(k i:Nat),l[k]?=some i->(pg ps i).next=E2 l k
abbrev SS:=Nat×Ky×Ky
def BC (ps:List PG)(x:SS):List SS:=(AF ps x.1).mapIdx fun k kid=>(kid,HZ (pg ps x.1) k x.2.1,Fl (pg ps x.1) k x.2.2)
def Bs (L:List SS):List Nat:=L.map (·.1)
theorem Dp (ps:List PG): ∀(L:List SS),Bs (L.flatMap (BC ps))=(Bs L).flatMap (AF ps)
 | []=>rfl
 |x::r=>by
  have ih:=Dp ps r;simp only[Bs,cF,List.map_append,List.map_cons] at ih ⊢;rw[ih]
  congr 1
  apply eB;intro k;simp only[BC,List.getElem?_map,eK]
  cases (AF ps x.1)[k]?<;>rfl
def Pl (ps:List PG)(L:List SS)(k:Nat)(x:SS):Prop:=(pg ps x.1).next=E2 (Bs L) k/\(pg ps x.1).high=x.2.2/\(pg ps x.1).leaf=(pg ps ((Bs L).getD 0 0)).leaf/\BV (pg ps x.1) x.2.1=true
def TG (ps:List PG)(L:List SS):Prop:= ∀(k:Nat)(x:SS),L[k]?=some x->Pl ps L k x
open Classical in
noncomputable def JP (ps:List PG)(n:Nat):Nat->List SS->Nat->Bool
 |0,_,_=>false
 |f+1,L,met=>if L=[] then decide (met=n) else if met+L.length>n then false else if TG ps L then JP ps n f (L.flatMap (BC ps)) (met+L.length) else false
def IT (ps:List PG):Nat->List Nat->List Nat
 |0,l=>l
 |d+1,l=>l++IT ps d (l.flatMap (AF ps))
theorem Mp (ps:List PG): ∀(d:Nat)(l:List Nat),(IT ps d l).flatMap (AF ps)=IT ps d (l.flatMap (AF ps))
 |0,_=>rfl
 |d+1,l=>by rw[IT,cX,Mp ps d,IT]
theorem Qf (ps:List PG): ∀(d:Nat)(l:List Nat),IT ps (d+1) l=IT ps d l++Cj ps (d+1) l
 |0,_=>rfl
 |d+1,l=>by
  rw[IT,Qf ps d,<-bB];rfl
theorem TD (ps:List PG): ∀(d:Nat)(l:List Nat),(l.flatMap (pre ps d)).Perm (IT ps d l)
 |0,l=>by
  have:l.flatMap (pre ps 0)=l:=by
   induction l with
   |nil=>rfl
   |cons x r ih=>rw[cF,ih];rfl
  rw[this];exact .refl _
 |d+1,l=>by
  have h1:(l.flatMap (pre ps (d+1))).Perm (l++(l.flatMap (AF ps)).flatMap (pre ps d)):=by
   induction l with
   |nil=>exact .refl _
   |cons x r ih=>
    rw[List.perm_iff_count] at ih ⊢;intro a;have:=ih a;simp only[cF,pre,List.count_append,fR,cX,List.cons_append] at this ⊢;omega
  exact h1.trans ((List.Perm.refl l).append (TD ps d _))
theorem Ox {ps:List PG}{n:Nat}(hin: ∀i x,x ∈ AF ps i->x<n): ∀(d:Nat)(l:List Nat),(∀x ∈ l,x<n)-> ∀x ∈ IT ps d l,x<n
 |0,l,hl,x,hx=>hl x hx
 |d+1,l,hl,x,hx=>by
  rcases cK.1 hx with h |h
  ·exact hl x h
  ·refine Ox hin d _ (fun y hy=>?_) x h
   obtain⟨z,_,hz⟩:=dN.1 hy;exact hin z y hz
theorem OB {ps:List PG}{n:Nat}(hk: ∀i,(pg ps i).leaf=false->AF ps i≠[]): ∀(f:Nat)(L:List SS)(met:Nat),L≠[]->JP ps n f L met=true->
  ∃d,(∀x ∈ L,Dz ps d x.1 x.2.1 x.2.2)/\(∀j,j≤d->JN ps (Cj ps j (Bs L)))/\met+(IT ps d (Bs L)).length=n
 |0,L,met,hL,h=>by simp[JP] at h
 |f+1,L,met,hL,h=>by
  rw[JP,if_neg hL] at h
  by_cases h1:met+L.length>n
  ·rw[if_pos h1] at h;cases h
  rw[if_neg h1] at h
  by_cases h2:TG ps L
  rotate_left
  ·rw[if_neg h2] at h;cases h
  rw[if_pos h2] at h
  have hch:JN ps (Bs L):=fun k i hi=>by
   rw[Bs,List.getElem?_map,aF] at hi;obtain⟨x,hx,rfl⟩:=hi;exact(h2 k x hx).1
  have hrow: ∀x ∈ L,(pg ps x.1).high=x.2.2/\(pg ps x.1).leaf=(pg ps ((Bs L).getD 0 0)).leaf/\BV (pg ps x.1) x.2.1=true:=fun x hx=>by
   obtain⟨k,hk⟩:=aO.1 hx;exact(h2 k x hk).2
  have hln:(Bs L).length=L.length:=by simp[Bs]
  cases hl:(pg ps ((Bs L).getD 0 0)).leaf
  ·have hne:L.flatMap (BC ps)≠[]:=fun he=>by
    cases L with
    |nil=>exact hL rfl
    |cons x r=>
     have h3:=Dp ps (x::r);rw[he] at h3
     have h4:AF ps x.1=[]:=by
      simp only[Bs,List.map_cons,cF,List.map_nil] at h3;exact(List.append_eq_nil_iff.1 h3.symm).1
     exact hk x.1 (by rw[(hrow x (by simp)).2.1,hl]) h4
   obtain⟨d,g,c,s⟩:=OB hk f _ _ hne h;refine⟨d+1,fun x hx=>⟨by rw[(hrow x hx).2.1,hl],(hrow x hx).1,(hrow x hx).2.2,fun k kid hkk=>?_⟩,fun j hj=>?_,?_⟩
   ·refine g (kid,HZ (pg ps x.1) k x.2.1,Fl (pg ps x.1) k x.2.2) (dN.2 ⟨x,hx,aO.2 ⟨k,?_⟩⟩)
    rw[BC,eK,hkk];rfl
   ·cases j with
    |zero=>exact hch
    |succ j=>
     have:=c j (by omega);rw[Dp] at this;exact this
   ·rw[Dp] at s
    rw[IT,List.length_append,hln];omega
  ·have he:L.flatMap (BC ps)=[]:=by
    refine List.flatMap_eq_nil_iff.2 fun x hx=>?_;rw[BC,Ei (by rw[(hrow x hx).2.1,hl])];rfl
   refine⟨0,fun x hx=>⟨by rw[(hrow x hx).2.1,hl],(hrow x hx).1,(hrow x hx).2.2⟩,fun j hj=>?_,?_⟩
   ·obtain rfl:j=0:=by omega
    exact hch
   ·rw[he] at h
    cases f with
    |zero=>simp[JP] at h
    |succ f=>
     rw[JP,if_pos rfl] at h;rw[IT,hln];exact aZ h
theorem QD {ps:List PG}{d i:Nat}{low high:Ky}(h:Dz ps d i low high):(pg ps i).high=high/\BV (pg ps i) low=true/\(pg ps i).leaf=decide (d=0):=by
 cases d with
 |zero=>exact⟨h.2.1,h.2.2,by simp[h.1]⟩
 |succ d=>exact⟨h.2.1,h.2.2.1,by simp[h.1]⟩
theorem Qh {ps:List PG}{n:Nat}(hk: ∀i,(pg ps i).leaf=false->AF ps i≠[]): ∀(f d:Nat)(L:List SS)(met:Nat),L≠[]->d+1<f->(∀x ∈ L,Dz ps d x.1 x.2.1 x.2.2)->(∀j,j≤d->JN ps (Cj ps j (Bs L)))->met+(IT ps d (Bs L)).length=n->JP ps n f L met=true
 |0,d,L,met,hL,hf,g,c,s=>by omega
 |f+1,d,L,met,hL,hf,g,c,s=>by
  have hln:(Bs L).length=L.length:=by simp[Bs]
  have hall:TG ps L:=fun k x hx=>by
   have hg:=QD (g x (aB hx));refine⟨c 0 (aU _) k x.1 (by rw[Cj,Bs,List.getElem?_map,hx];rfl),hg.1,?_,hg.2.1⟩
   cases L with
   |nil=>exact absurd rfl hL
   |cons y r=>rw[hg.2.2,show(Bs (y::r)).getD 0 0=y.1 from rfl,(QD (g y (by simp))).2.2]
  rw[JP,if_neg hL]
  cases d with
  |zero=>
   rw[IT,hln] at s
   have he:L.flatMap (BC ps)=[]:=by
    refine List.flatMap_eq_nil_iff.2 fun x hx=>?_;rw[BC,Ei (g x hx).1];rfl
   rw[if_neg (by omega),if_pos hall,he]
   cases f with
   |zero=>omega
   |succ f=>rw[JP,if_pos rfl];exact aE s
  |succ d=>
   rw[IT,List.length_append,hln,<-Dp] at s;rw[if_neg (by omega),if_pos hall]
   have hne:L.flatMap (BC ps)≠[]:=fun he=>by
    cases L with
    |nil=>exact hL rfl
    |cons x r=>
     have h3:=Dp ps (x::r);rw[he] at h3
     have h4:AF ps x.1=[]:=by
      simp only[Bs,List.map_cons,cF,List.map_nil] at h3;exact(List.append_eq_nil_iff.1 h3.symm).1
     exact hk x.1 (g x (by simp)).1 h4
   refine Qh hk f d _ _ hne (by omega) (fun y hy=>?_) (fun j hj=>?_) (by omega)
   ·obtain⟨x,hx,hy⟩:=dN.1 hy
    obtain⟨k,hkk⟩:=aO.1 hy;rw[BC,eK,aF] at hkk;obtain⟨kid,hkid,rfl⟩:=hkk;exact(g x hx).2.2.2 k kid hkid
   ·rw[Dp]
    exact c (j+1) (by omega)
def Kk (ps:List PG)(n:Nat):List Nat:=(List.range n).flatMap (AF ps)
theorem OL {g:Nat->Nat}: ∀ {l m:List Nat},l.Nodup->(∀x ∈ l,x ∈ m)->(l.map g).sum≤(m.map g).sum
 | [],m,_,_=>by simp
 |x::r,m,hn,hs=>by
  rw[dY] at hn;have hx:=hs x (by simp);have ih:=OL (g:=g) (l:=r) (m:=m.erase x) hn.2 (fun y hy=>(gQ (by rintro rfl;exact hn.1 hy)).2 (hs y (by simp[hy])));have hp:(m.map g).sum=((x::m.erase x).map g).sum:=(List.Perm.map g (List.perm_cons_erase hx)).sum_nat;rw[hp];simp only[List.map_cons,List.sum_cons];omega
theorem GN (a:Nat)(f:Nat->List Nat)(l:List Nat):List.count a (l.flatMap f)=(l.map fun y=>List.count a (f y)).sum:=by
 rw[List.count_flatMap];rfl
theorem Ir {ps:List PG}{n root:Nat}(hin: ∀i x,x ∈ AF ps i->x<n)(hr:root<n)(h:(root::Kk ps n).Nodup): ∀d,(IT ps d [root]).Nodup
 |0=>by simp[IT]
 |d+1=>by
  have ih:=Ir hin hr h d;rw[List.nodup_iff_count] at h ⊢;intro a;have h1:=h a;rw[IT,<-Mp,List.cons_append,List.nil_append];rw[Kk,fR,GN] at h1;rw[fR,GN];have:=OL (g:=fun y=>List.count a (AF ps y)) ih (m:=List.range n) (fun x hx=>cP.2 (Ox hin d [root] (by simp[hr]) x hx));omega
theorem Ni: ∀ {l m:List Nat},l.Nodup->(∀x ∈ l,x ∈ m)->l.length≤m.length:=by
 intro l
 induction l with
 |nil=>intro m _ _;exact aU _
 |cons x r ih=>
  intro m hn hs;rw[dY] at hn;have hx:=hs x (by simp);have:=ih (m:=m.erase x) hn.2 (fun y hy=>(gQ (by rintro rfl;exact hn.1 hy)).2 (hs y (by simp[hy])));rw[List.length_erase_of_mem hx] at this;have:0<m.length:=List.length_pos_of_mem hx;simp only[List.length_cons];omega
theorem RQ {l:List Nat}{n:Nat}(hn:l.Nodup)(hl:l.length=n)(hm: ∀x ∈ l,x<n): ∀x,x<n->x ∈ l:=by
 intro x hx
 by_cases h:x ∈ l
 ·exact h
 have h1:=Ni (l:=x::l) (m:=List.range n) (dY.2 ⟨h,hn⟩) (fun y hy=>by
  rcases bA.1 hy with rfl |hy
  ·exact cP.2 hx
  ·exact cP.2 (hm y hy))
 simp at h1;omega
theorem OT {ps:List PG}{n root d:Nat}(hin: ∀i x,x ∈ AF ps i->x<n)(hr:root<n)(he:Cj ps (d+1) [root]=[])(h:(IT ps d [root]).Nodup)(hl:(IT ps d [root]).length=n):(root::Kk ps n).Nodup:=by
 have hf:=RQ h hl (Ox hin d [root] (by simp[hr]))
 have hc:IT ps d [root]=root::(IT ps d [root]).flatMap (AF ps):=by
  have h1:=Qf ps d [root];rw[he,List.append_nil] at h1;rw[Mp];rw[<-h1];rfl
 rw[List.nodup_iff_count] at h ⊢;intro a;have h1:=h a;rw[hc,fR,GN] at h1;rw[Kk,fR,GN];have:=OL (g:=fun y=>List.count a (AF ps y)) (l:=List.range n) (m:=IT ps d [root]) List.nodup_range (fun x hx=>hf x (cP.1 hx));omega
structure TreeOK (ps:List PG)(root d:Nat):Prop where
 good:Dz ps d root [] []
 chains: ∀j,j≤d->JN ps (Cj ps j [root])
 once:(IT ps d [root]).Nodup
 all:(IT ps d [root]).length=ps.length
open Go Go.RowKit
attribute [local irreducible] AWP DU
def DV (k:Ky):List AV:=[.ro true 1 (k.map AC)]
@[simp] theorem X5 (a:Ky):(∀x,x ∈ DV a->PT x)=True:=aK (by intro x hx;simp[DV] at hx;subst hx;simp)
instance:PTf DV:=⟨fun a=>of_eq_true (X5 a)⟩
def eP (p:PG):List AV:=[.r (.bool p.leaf),.ro true 1 (p.keys.map DV),.ro true 1 (p.kids.map eI),.ro true 1 (p.high.map AC),.r (.int .i64 p.next)]
@[simp] theorem Yq (a:PG):(∀x,x ∈ eP a->PT x)=True:=aK (by intro x hx;simp[eP] at hx;rcases hx with rfl |rfl |rfl |rfl |rfl<;>simp)
instance:PTf eP:=⟨fun a=>of_eq_true (Yq a)⟩
def GB (k:Ky):Bool:=decide (0<(k.length:Int))&&decide ((k.length:Int)≤100)
theorem Hl (G:GL)(t u:Bool)(l m:Ky):Con prog G 101 [.ro t 1 (l.map AC),.ro u 1 (m.map AC)] [] 0 (Is (.r (.bool (l==m))) [] 0) No:=by
 refine cJ func101 fun E hG hE=>?_;subst hG;simp only[AX];(repeat' (first |refine A0 ?_ |((refine sR (fun K kp=>?_));simp(disch:=omega) only[go_sem,Fz];(repeat' (refine K _ ?_;clear K kp))) |refine A5 ?_));(refine rJ results101 ?_;exact eQ hE)
theorem HP (G:GL)(t u:Bool)(l m:Ky):Con prog G 103 [.ro t 1 (l.map AC),.ro u 1 (m.map AC)] [] 0 (Is (.r (.bool (l==m))) [] 0) No:=by
 refine cJ func103 fun E hG hE=>?_;subst hG;simp only[AX];(repeat' (first |refine A0 ?_ |((refine sR (fun K kp=>?_));simp(disch:=omega) only[go_sem,Fz];(repeat' (refine K _ ?_;clear K kp))) |refine A5 ?_));(refine rJ results103 ?_;exact eQ hE)
theorem J5 (G:GL)(n a b:Int):Con prog G 56 [.r (.int .i64 n),.r (.int .i64 a),.r (.int .i64 b)] [] 0 (Is (.r (.bool (decide (a≤n)&&decide (n≤b)))) [] 0) No:=by
 refine cJ func56 fun E hG hE=>?_;subst hG;simp only[AX]
 by_cases h1:a≤n
 ·have h1':(n≥a)=True:=aK h1
  (repeat' (first |refine A0 ?_ |((refine sR (fun K kp=>?_));simp(disch:=omega) only[go_sem,h1'];(repeat' (refine K _ ?_;clear K kp))) |refine A5 ?_));(refine rJ results56 ?_;refine eN hE ?_;simp[A8,ren,renL,h1])
 ·have h1':(n≥a)=False:=bH h1
  (repeat' (first |refine A0 ?_ |((refine sR (fun K kp=>?_));simp(disch:=omega) only[go_sem,h1'];(repeat' (refine K _ ?_;clear K kp))) |refine A5 ?_));(refine rJ results56 ?_;refine eN hE ?_;simp[A8,ren,renL,h1])
theorem L9 (G:GL)(t:Bool)(l:Ky):Con prog G 158 [.ro t 1 (l.map AC)] [] 0 (Is (.r (.bool (GB l))) [] 0) No:=by
 refine cJ func158 fun E hG hE=>?_;subst hG;simp only[AX]
 by_cases h1:0<(l.length:Int)
 ·have h1':((l.length:Int)>0)=True:=aK h1
  (repeat' (first |refine A0 ?_ |((refine sR (fun K kp=>?_));simp(disch:=omega) only[go_sem,h1'];(repeat' (refine K _ ?_;clear K kp))) |refine A5 ?_));(refine rJ results158 ?_;refine eN hE ?_;simp[A8,ren,renL,GB,h1]);intro;omega
 ·have h1':((l.length:Int)>0)=False:=bH h1
  (repeat' (first |refine A0 ?_ |((refine sR (fun K kp=>?_));simp(disch:=omega) only[go_sem,h1'];(repeat' (refine K _ ?_;clear K kp))) |refine A5 ?_));(refine rJ results158 ?_;refine eN hE ?_;simp[A8,ren,renL,GB,h1]);intro;omega
theorem ME (G:GL)(t:Bool)(l:Ky):Con prog G 169 [.ro t 1 (l.map AC)] [] 0 (Is (.r (.bool (GB l))) [] 0) No:=by
 have ic:=J5 G l.length 1 100;simp only[show(1≤(l.length:Int))=(0<(l.length:Int)) from propext (by omega)] at ic;refine cJ func169 fun E hG hE=>?_;subst hG;simp only[AX];(repeat' (first |refine A0 ?_ |((first |refine sR (fun K kp=>?_) |refine cR ic ?_);simp(disch:=omega) only[go_sem,GB];(repeat' (refine K _ ?_;clear K kp))) |refine A5 ?_));(refine rJ results169 ?_;refine eN hE ?_;simp[A8,ren,renL,GB])
structure HeadOK (p:PG)(many:Nat):Prop where
 nk:p.keys.length≤4
 nh:p.high.length≤100
 n0: -1≤p.next
 n1:p.next<many
 nb:p.next<0↔p.high.length=0
 kl:p.leaf=true->p.kids.length=p.keys.length
 ki:p.leaf=false->p.kids.length=p.keys.length+1
 ne:p.leaf=false->p.keys.length≠0
def Gn (p:PG)(i:Nat):Prop:=GB (p.keys.getD i [])=true/\(0<i->BI (p.keys.getD (i - 1) []) (p.keys.getD i [])=true)/\(0<p.high.length->BI (p.keys.getD i []) p.high=true)
def Pq (p:PG)(many:Nat)(n:Int):Prop:=0≤n/\(p.leaf=false->n<many)
structure PageOK (p:PG)(many:Nat):Prop extends HeadOK p many where
 ks: ∀i,i<p.keys.length->Gn p i
 kd: ∀i,i<p.kids.length->Pq p many (p.kids.getD i 0)
noncomputable def Wi (p:PG)(many:Nat):Bool:= @decide (PageOK p many) (Classical.propDecidable _)
theorem Ng {p:PG}{many:Nat}(h:PageOK p many):Wi p many=true:=by unfold Wi;exact @aE _ (Classical.propDecidable _) h
theorem Hy {p:PG}{many:Nat}(h: ¬PageOK p many):Wi p many=false:=by unfold Wi;exact @aC _ (Classical.propDecidable _) h
theorem YB {n:Int}{l:Nat}(h:(!(decide (n<0)==((l:Int)==0)))=false):n<0↔l=0:=by
 simp at h
 constructor
 ·intro h1
  have:=h.trans rfl;simp[h1] at h;omega
 ·intro h1
  subst h1;simpa using h
theorem Tw (G:GL)(p:PG)(many:Nat)(H: ¬HeadOK p many)(hb:p.keys.length≤1048576):Con prog G 123 [.agg (eP p),.r (.int .i64 many)] [] 0 (Is (.r (.bool (Wi p many))) [] 0) No:=by
 rw[Hy fun x=>H x.1];refine cJ func123 fun E hG hE=>?_;subst hG;simp only[AX];cases hl:p.leaf
 ·(repeat' (first |refine A0 ?_ |refine A4 ?_ |refine A3 ?_ |((first |refine sR (fun K kp=>?_) |refine iG ?_);simp(disch:=omega) only[go_sem,eP,hl];(repeat' (refine K _ ?_;clear K kp))) |((refine aG (fun h=>?_) (fun h=>?_))<;>simp only[h]) |refine A2 rfl ?_ |((refine A6 rfl (fun h=>?_) (fun h=>?_)<;>try simp only[Af] at h)) |refine A5 ?_))
  all_goals first
   |(refine rJ results123 ?_;refine eN hE ?_;simp[A8,ren,renL])
   |skip
  all_goals (exfalso;rename_i h1 h2 h3 h4 h5 h6;apply H;simp only[decide_eq_false_iff_not,bne_eq_false_iff_eq] at *)
  all_goals exact⟨by omega,by omega,by omega,by omega,YB (by assumption),fun h=>(by rw[hl] at h;cases h),fun _=>by omega,fun _=>by omega⟩
 ·(repeat' (first |refine A0 ?_ |refine A4 ?_ |refine A3 ?_ |((first |refine sR (fun K kp=>?_) |refine iG ?_);simp(disch:=omega) only[go_sem,eP,hl];(repeat' (refine K _ ?_;clear K kp))) |((refine aG (fun h=>?_) (fun h=>?_))<;>simp only[h]) |refine A2 rfl ?_ |refine A1 rfl ?_ |((refine A6 rfl (fun h=>?_) (fun h=>?_)<;>try simp only[Af] at h)) |refine A5 ?_))
  all_goals first
   |(refine rJ results123 ?_;refine eN hE ?_;simp[A8,ren,renL])
   |skip
  all_goals (exfalso;rename_i h1 h2 h3 h4 h5;apply H;simp only[decide_eq_false_iff_not,bne_eq_false_iff_eq] at *)
  all_goals exact⟨by omega,by omega,by omega,by omega,YB (by assumption),fun _=>by omega,fun h=>(by rw[hl] at h;cases h),fun h=>(by rw[hl] at h;cases h)⟩
end Go.AM
namespace Go.AM
open Go
theorem IR: ∀(a b:List UInt8),Lib.compareBytes a b=if Op.bytesLess a b=true then -1 else if Op.bytesLess b a=true then 1 else 0
 | [],[]=>by simp[Lib.compareBytes,Op.bytesLess]
 | [],_::_=>by simp[Lib.compareBytes,Op.bytesLess]
 |_::_,[]=>by simp[Lib.compareBytes,Op.bytesLess]
 |a::x,b::y=>by
  have ih:=IR x y;simp only[Lib.compareBytes,Op.bytesLess,ih]
  by_cases h1:a<b
  ·simp[h1]
  ·by_cases h2:b<a
   ·have: ¬(a==b)=true:=by intro h;simp at h;subst h;exact h1 h2
    simp[h1,h2,this]
   ·have e:a=b:=by
     have:a.toNat=b.toNat:=by simp[cN] at h1 h2;omega
     exact gR this
    subst e;simp[h1]
theorem G8: ∀(a:List UInt8),Op.bytesLess a a=false
 | []=>rfl
 |a::x=>by simp[Op.bytesLess,G8 x]
theorem KR: ∀(a b:List UInt8),Op.bytesLess a b=true->Op.bytesLess b a=false
 | [],[]=>by simp[Op.bytesLess]
 | [],_::_=>by simp[Op.bytesLess]
 |_::_,[]=>by simp[Op.bytesLess]
 |a::x,b::y=>by
  have ih:=KR x y;simp only[Op.bytesLess,cA,aJ,aP,cY,fJ,eG,decide_eq_false_iff_not];rintro(h |⟨rfl,h⟩)
  ·refine⟨?_,?_⟩
   ·simp[cN] at h ⊢;omega
   ·left;rw[aT];intro e;subst e;simp[cN] at h
  ·refine⟨by simp[cN],.inr (ih h)⟩
theorem Gx: ∀(a b:List UInt8),Op.bytesLess a b=false->Op.bytesLess b a=false->a=b
 | [],[]=>by simp
 | [],_::_=>by simp[Op.bytesLess]
 |_::_,[]=>by simp[Op.bytesLess]
 |a::x,b::y=>by
  have ih:=Gx x y;simp only[Op.bytesLess,fJ,eG,decide_eq_false_iff_not,aT];rintro⟨h1,h2⟩ ⟨h3,h4⟩
  have e:a=b:=by
   have:a.toNat=b.toNat:=by simp[cN] at h1 h3;omega
   exact gR this
  subst e;rw[ih (by simpa using h2) (by simpa using h4)]
theorem Ue (a b:List UInt8):Lib.compareBytes a b=0↔a=b:=by
 rw[IR]
 constructor
 ·intro h
  split at h
  ·simp at h
  ·split at h
   ·simp at h
   ·exact Gx a b (by simpa using ‹¬ Op.bytesLess a b=true›) (by simpa using ‹¬ Op.bytesLess b a=true›)
 ·rintro rfl
  simp[G8]
theorem KQ: ∀(a b c:List UInt8),Op.bytesLess a b=true->Op.bytesLess b c=true->Op.bytesLess a c=true
 |_,[],[],_,h=>by simp[Op.bytesLess] at h
 | [],[],_::_,h,_=>by simp[Op.bytesLess] at h
 |_::_,[],_::_,h,_=>by simp[Op.bytesLess] at h
 |_,_::_,[],_,h=>by simp[Op.bytesLess] at h
 | [],_::_,_::_,_,_=>by simp[Op.bytesLess]
 |a::x,b::y,c::z,h1,h2=>by
  have ih:=KQ x y z;simp only[Op.bytesLess,cA,aJ,aP,cY] at h1 h2 ⊢
  rcases h1 with h1 |⟨rfl,h1⟩
  ·rcases h2 with h2 |⟨rfl,_⟩
   ·left;simp[cN] at h1 h2 ⊢;omega
   ·exact .inl h1
  ·rcases h2 with h2 |⟨rfl,h2⟩
   ·exact .inl h2
   ·exact .inr ⟨rfl,ih h1 h2⟩
theorem Ez (a:Ky):BI a a=false:=G8 a
theorem Fi {a b:Ky}(h:BI a b=true):BI b a=false:=KR a b h
theorem Jj {a b:Ky}(h:BI a b=false)(h2:BI b a=false):a=b:=Gx a b h h2
theorem C2 {a b c:Ky}(h:BI a b=true)(h2:BI b c=true):BI a c=true:=KQ a b c h h2
theorem E_ {a b c:Ky}(h:BI a b=true)(h2:BI c b=false):BI a c=true:=by
 cases h3:BI b c
 ·rw[<-Jj h3 h2];exact h
 ·exact C2 h h3
theorem K0 (a b:Ky):Lib.compareBytes a b=if BI a b=true then -1 else if BI b a=true then 1 else 0:=IR a b
theorem S7 (a b:Ky):decide (Lib.compareBytes a b≥0)= !BI a b:=by
 rw[K0];cases BI a b
 ·simp only[bU,↓reduceIte]
  split<;>rfl
 ·rfl
theorem T5 (a b:Ky):decide (Lib.compareBytes a b>0)=BI b a:=by
 rw[K0];cases h:BI a b
 ·simp only[bU,↓reduceIte]
  cases BI b a<;>rfl
 ·rw[Fi h];rfl
theorem Ou (a b:Ky):decide (Lib.compareBytes a b<0)=BI a b:=by
 rw[K0];cases BI a b
 ·simp only[bU,↓reduceIte]
  split<;>rfl
 ·rfl
open Go Go.RowKit
attribute [local irreducible] AWP DU
theorem Tx (G:GL)(p:PG)(many:Nat)(H:HeadOK p many)(hb:p.kids.length≤1048576):Con prog G 123 [.agg (eP p),.r (.int .i64 many)] [] 0 (Is (.r (.bool (Wi p many))) [] 0) No:=by
 have f1:((p.keys.length:Int)>4)=False:=bH (by have:=H.nk;omega);have f2:((p.high.length:Int)>100)=False:=bH (by have:=H.nh;omega);have f3:(p.next< -1)=False:=bH (by have:=H.n0;omega);have f4:(p.next≥(many:Int))=False:=bH (by have:=H.n1;omega)
 have f5:(!(decide (p.next<0)==((p.high.length:Int)==0)))=false:=by
  have:=H.nb
  by_cases h:p.next<0
  ·simp[h,this.1 h]
  ·have h2: ¬p.high.length=0:=fun x=>h (this.2 x)
   simp[h,h2]
 have hk4:=H.nk;refine cJ func123 fun E hG hE=>?_;subst hG;simp only[AX];cases hl:p.leaf
 case' false=>
  have f6:=H.ki hl
  have f7:((p.keys.length:Int)==0)=false:=by have:=H.ne hl;simp;exact List.ne_nil_of_length_pos (by omega)
  have f8:((p.kids.length:Int) !=(p.keys.length:Int)+1)=false:=by rw[f6];simp
  (repeat' (first |refine A0 ?_ |refine A4 ?_ |refine A3 ?_ |((refine sR (fun K kp=>?_));simp(disch:=omega) only[go_sem,eP,hl,f1,f2,f3,f4,f5,f7,f8];(repeat' (refine K _ ?_;clear K kp))) |refine A1 rfl ?_))
 case' true=>
  have f6:=H.kl hl
  have f8:((p.kids.length:Int) !=(p.keys.length:Int))=false:=by rw[f6];simp
  (repeat' (first |refine A0 ?_ |refine A4 ?_ |refine A3 ?_ |((refine sR (fun K kp=>?_));simp(disch:=omega) only[go_sem,eP,hl,f1,f2,f3,f4,f5,f8];(repeat' (refine K _ ?_;clear K kp))) |refine A1 rfl ?_))
 all_goals
  refine AB (fun i:Nat=>⟨[(75,.r (.int .i64 i)),(74,.r (.int .i64 p.keys.length)),(73,.ro true 1 (p.keys.map DV)),(2,.p 0 0 0),(1,.r (.int .i64 many))],[(0,.box 121 [.r (.bool p.leaf),.ro true 1 (p.keys.map DV),.ro true 1 (p.kids.map eI),.ro true 1 (p.high.map AC),.r (.int .i64 p.next)])],1⟩) (fun i=>i≤p.keys.length/\ ∀j,j<i->Gn p j) (fun i=>p.keys.length - i) 0 ?_ ?_ ?_
  ·exact⟨aU _,fun j hj=>by omega⟩
  ·(refine AJ hE [0] rfl ?_ ?_<;>simp[Ai,AY,lk,ren,renL,AA,AU,hl]<;>(try omega))
  intro i hi;obtain⟨hi,hdone⟩:=hi
  by_cases hlt:i<p.keys.length
  ·have zi:((i:Int)<(p.keys.length:Int))=True:=aK (by omega)
   obtain⟨x,hx⟩: ∃x,p.keys[i]?=some x:=⟨p.keys[i],by simp[hlt]⟩
   have hxD:p.keys.getD i []=x:=by rw[aH,hx];rfl
   cases i with
   |zero=>
    have hok:Gn p 0↔GB x=true/\(0<p.high.length->BI x p.high=true):=by unfold Gn;rw[hxD];simp
    (repeat' (first |refine A0 ?_ |refine A4 ?_ |refine A3 ?_ |((first |refine sR (fun K kp=>?_) |refine cR (L9 _ _ _) ?_ |refine cR (DF _ _ _ _ _) ?_ |refine iG ?_);simp(disch:=omega) only[go_sem,zi,hx,DV,S7];(repeat' (refine K _ ?_;clear K kp))) |((refine aG (fun h=>?_) (fun h=>?_))<;>simp only[h]) |refine A2 rfl ?_ |refine A1 rfl ?_ |((refine A6 rfl (fun h=>?_) (fun h=>?_)<;>try simp only[Af] at h)<;>(try (exfalso;omega))) |refine A5 ?_))
    all_goals first
     |(rw[Hy (fun X=>absurd (hok.1 (X.ks _ hlt)) (by clear hE hdone;simp_all))];(refine rJ results123 ?_;refine eN hE ?_;simp[A8,ren,renL]))
     |(have hok':=hok.2 (by clear hE hdone;simp_all);(refine BF (0+1) ?_ (iK hE [0]));exact⟨by omega,fun j' hj'=>(by by_cases he:j'=0;(·rw[he];exact hok');(·exact hdone j' (by omega)))⟩)
   |succ j=>
    obtain⟨y,hy⟩: ∃y,p.keys[j]?=some y:=⟨p.keys[j],by simp[show j<p.keys.length by omega]⟩
    have hyD:p.keys.getD j []=y:=by rw[aH,hy];rfl
    have hj1:((j+1:Nat):Int) - 1=(j:Int):=by omega
    have hok:Gn p (j+1)↔GB x=true/\BI y x=true/\(0<p.high.length->BI x p.high=true):=by unfold Gn;rw[hxD,dF,hyD];simp
    (repeat' (first |refine A0 ?_ |refine A4 ?_ |refine A3 ?_ |((first |refine sR (fun K kp=>?_) |refine cR (L9 _ _ _) ?_ |refine cR (DF _ _ _ _ _) ?_ |refine iG ?_);simp(disch:=omega) only[go_sem,zi,hx,hy,hj1,DV,S7];(repeat' (refine K _ ?_;clear K kp))) |((refine aG (fun h=>?_) (fun h=>?_))<;>simp only[h]) |refine A2 rfl ?_ |refine A1 rfl ?_ |((refine A6 rfl (fun h=>?_) (fun h=>?_)<;>try simp only[Af] at h)<;>(try (exfalso;omega))) |refine A5 ?_))
    all_goals first
     |(rw[Hy (fun X=>absurd (hok.1 (X.ks _ hlt)) (by clear hE hdone;simp_all))];(refine rJ results123 ?_;refine eN hE ?_;simp[A8,ren,renL]))
     |(have hok':=hok.2 (by clear hE hdone;simp_all);(refine BF (j+1+1) ?_ (iK hE [0]));exact⟨by omega,fun j' hj'=>(by by_cases he:j'=j+1;(·rw[he];exact hok');(·exact hdone j' (by omega)))⟩)
  ·obtain rfl:i=p.keys.length:=by omega
   (repeat' (first |refine A0 ?_ |refine A4 ?_ |refine A7 ?_ |((refine sR (fun K kp=>?_));simp(disch:=omega) only[go_sem];(repeat' (refine K _ ?_;clear K kp))) |((refine A6 rfl (fun h=>?_) (fun h=>?_)<;>try simp only[Af] at h)<;>(try (exfalso;omega)))));refine AB (fun i:Nat=>⟨[(115,.r (.int .i64 i)),(114,.r (.int .i64 p.kids.length)),(113,.ro true 1 (p.kids.map eI)),(2,.p 0 0 0),(1,.r (.int .i64 many))],[(0,.box 121 [.r (.bool p.leaf),.ro true 1 (p.keys.map DV),.ro true 1 (p.kids.map eI),.ro true 1 (p.high.map AC),.r (.int .i64 p.next)])],1⟩) (fun i=>i≤p.kids.length/\ ∀j,j<i->Pq p many (p.kids.getD j 0)) (fun i=>p.kids.length - i) 0 ?_ ?_ ?_
   ·exact⟨aU _,fun j hj=>by omega⟩
   ·(refine AJ hE [0] rfl ?_ ?_<;>simp[Ai,AY,lk,ren,renL,AA,AU,hl]<;>(try omega))
   intro i hi;obtain⟨hi,hd2⟩:=hi
   by_cases hlt:i<p.kids.length
   ·have zi:((i:Int)<(p.kids.length:Int))=True:=aK (by omega)
    obtain⟨x,hx⟩: ∃x,p.kids[i]?=some x:=⟨p.kids[i],by simp[hlt]⟩
    have hok:Pq p many (p.kids.getD i 0)↔0≤x/\(p.leaf=false->x<many):=by rw[aH,hx];rfl
    rw[hl] at hok;(repeat' (first |refine A0 ?_ |refine A4 ?_ |refine A3 ?_ |((first |refine sR (fun K kp=>?_) |refine iG ?_);simp(disch:=omega) only[go_sem,zi,hx,eI,hl];(repeat' (refine K _ ?_;clear K kp))) |((refine aG (fun h=>?_) (fun h=>?_))<;>simp only[h]) |refine A2 rfl ?_ |refine A1 rfl ?_ |((refine A6 rfl (fun h=>?_) (fun h=>?_)<;>try simp only[Af] at h)<;>(try (exfalso;omega))) |refine A5 ?_))
    all_goals first
     |(rw[Hy (fun X=>by have Y:=hok.1 (X.kd _ hlt);clear hE hdone hd2;simp_all;try omega)];(refine rJ results123 ?_;refine eN hE ?_;simp[A8,ren,renL]))
     |(have hok':=hok.2 (by clear hE hdone hd2;constructor<;>simp_all<;>omega);(refine BF (i+1) ?_ (iK hE [0]));exact⟨by omega,fun j' hj'=>(by by_cases he:j'=i;(·rw[he];exact hok');(·exact hd2 j' (by omega)))⟩)
   ·obtain rfl:i=p.kids.length:=by omega
    rw[Ng ⟨H,hdone,hd2⟩];(repeat' (first |refine A0 ?_ |refine A7 ?_ |((refine sR (fun K kp=>?_));simp(disch:=omega) only[go_sem];(repeat' (refine K _ ?_;clear K kp))) |((refine A6 rfl (fun h=>?_) (fun h=>?_)<;>try simp only[Af] at h)<;>(try (exfalso;omega))) |refine A5 ?_));(refine rJ results123 ?_;exact eQ hE)
structure WI (n:Nat)(st:WS):Prop where
 nd:st.met.Nodup
 lt: ∀x ∈ st.met,x<n
 rl:st.rows.length≤st.met.length
 rs: ∀r ∈ st.rows,r.length≤st.met.length
structure WL (st st':WS):Prop where
 m:st.met.length≤st'.met.length
 r:st.rows.length≤st'.rows.length
theorem WI.len {n:Nat}{st:WS}(h:WI n st):st.met.length≤n:=by
 have:=Ni h.nd (m:=List.range n) (fun x hx=>cP.2 (h.lt x hx));simpa using this
section
variable {ps:List PG} {n:Nat}
theorem DT (rows:List (List Nat))(level i:Nat):(BP rows level i).length=if level<rows.length then rows.length else rows.length+1:=by
 unfold BP;split<;>simp
theorem WI.met1 {st:WS}{i:Nat}(h:WI n st)(hi:i<n)(hm:i ∉ st.met):WI n ⟨st.met++[i],st.rows⟩:=by
 refine⟨dR.2 ⟨h.nd,by simp,fun a ha b hb=>by simp at hb;subst hb;rintro rfl;exact hm ha⟩,fun x hx=>?_,?_,fun r hr=>?_⟩
 ·rcases cK.1 hx with hx |hx
  ·exact h.lt x hx
  ·simp at hx;omega
 ·have:=h.rl;simp;omega
 ·have:=h.rs r hr;simp;omega
theorem WI.row1 {st:WS}{i level:Nat}(h:WI n st)(hi:i<n)(hm:i ∉ st.met):WI n ⟨st.met++[i],BP st.rows level i⟩:=by
 have h1:=h.met1 hi hm;refine⟨h1.nd,h1.lt,?_,fun r hr=>?_⟩
 ·have:=h.rl
  show(BP st.rows level i).length≤(st.met++[i]).length
  rw[DT];simp;split<;>omega
 ·have h2:=h.rs
  show r.length≤(st.met++[i]).length;have hr':r ∈ BP st.rows level i:=hr;unfold BP at hr';simp only[List.length_append,cC];split at hr'
  ·rename_i hl
   rcases List.mem_or_eq_of_mem_set hr' with hr' |rfl
   ·have:=h2 r hr';omega
   ·have:=h2 (st.rows.getD level []) (by rw[aH,aI hl];exact fL hl)
    rw[List.length_append,cC];omega
  ·rcases cK.1 hr' with hr' |hr'
   ·have:=h2 r hr';omega
   ·simp at hr';subst hr';simp
theorem OE (rows:List (List Nat))(level i:Nat):rows.length≤(BP rows level i).length:=by rw[DT];split<;>omega
theorem Q9 {rec:Nat->Ky->Ky->Nat->WS->Int×WS}{p:PG}{low high:Ky}{lev:Nat}(hrec: ∀i low high st,i<n->WI n st->lev≤st.rows.length->WI n (rec i low high lev st).2/\WL st (rec i low high lev st).2):
  ∀(l:List Nat)(k:Nat)(deep:Int)(st:WS),(∀x ∈ l,x<n)->WI n st->lev≤st.rows.length->WI n (EE rec p low high lev k deep st l).2/\WL st (EE rec p low high lev k deep st l).2
 | [],k,deep,st,_,h,_=>⟨h,Nat.le_refl _,Nat.le_refl _⟩
 |kid::r,k,deep,st,hl,h,hr=>by
  obtain⟨h1,h2⟩:=hrec kid (HZ p k low) (Fl p k high) st (hl kid (by simp)) h hr;rw[EE];split
  ·exact⟨h1,h2⟩
  ·obtain⟨h3,h4⟩:=Q9 hrec r (k+1) (rec kid (HZ p k low) (Fl p k high) lev st).1 _ (fun x hx=>hl x (by simp[hx])) h1 (bL hr h2.r)
   exact⟨h3,bL h2.m h4.m,bL h2.r h4.r⟩
theorem LL (hin: ∀i x,x ∈ AF ps i->x<n): ∀(f i:Nat)(low high:Ky)(level:Nat)(st:WS),i<n->WI n st->level≤st.rows.length->WI n (Cm ps f i low high level st).2/\WL st (Cm ps f i low high level st).2
 |0,i,low,high,level,st,hi,h,hr=>⟨h,Nat.le_refl _,Nat.le_refl _⟩
 |f+1,i,low,high,level,st,hi,h,hr=>by
  rw[Cm];split
  ·exact⟨h,Nat.le_refl _,Nat.le_refl _⟩
  ·rename_i hm
   split
   ·exact⟨h.met1 hi hm,by simp,Nat.le_refl _⟩
   ·split
    ·exact⟨h.row1 hi hm,by simp,OE _ _ _⟩
    ·obtain⟨h3,h4⟩:=Q9 (p:=pg ps i) (low:=low) (high:=high) (fun i low high st hi h hr=>LL hin f i low high (level+1) st hi h hr) (AF ps i) 0 (-2) ⟨st.met++[i],BP st.rows level i⟩ (hin i) (h.row1 hi hm) (by show level+1≤(BP st.rows level i).length;rw[DT];split<;>omega)
     exact⟨h3,bL (by simp) h4.m,bL (OE _ _ _) h4.r⟩
end
end Go.AM
