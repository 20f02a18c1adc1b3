/- Texts of the law BaseUndoes, part 8: lemmas; what is proved stands in the last text. -/
import Derived.Test.YtekljlenlbhmcaaGreatDoorZz7
import Derived.Lib.JoinLaws
import Derived.Lib.AppendZeros
import Derived.Lib.AppendZerosOnto
import Derived.Lib.Overlaps
import Derived.Laws.Externs
import Derived.Laws.IdiomCopy
import Derived.Laws.NewBlocks
import Derived.WalkKit
import Derived.Test.YtekljlenlbhmcaaGreatDoorZz6
import Derived.Test.YtekljlenlbhmcaaGreatDoorZz5
open Go.Proofs.Tryz
set_option linter.unusedSimpArgs false
set_option linter.unusedVariables false
set_option maxRecDepth 100000
set_option linter.unusedVariables false
set_option linter.unusedSimpArgs false
namespace Go.Proofs.YtekljlenlbhmcaaGreatDoor
open Go.RowKit Go.Lib
theorem Cg {P:Program}{ops:Array Oper}{o:Oper}{a:Act}{w:World}{K:Act→World→Prop}{Q:Exit→Act→World→Prop}{E:Prop}
  (hg:o.guard=none) (d x:Operand) (dT sT:TypeId) (hop:o.op=Op.call {callee:=Callee.builtin Builtin.copy,args:= #[d,x],argTypes:= #[dT,sT]})
  (v u:Value) (hd:a.eval d=v) (hx:a.eval x=u) {v':Value} {w':World} (hr:(Builtin.copy_ #[dT,sT] o.type #[v,u]).run P w= .ok v' w') (hK:K (a.put o.dst v') w'):
  if Region.wanted o (yielded ops a.tmps)=true then Oper.wp P o a w K Q else E:=by
 have hw:Region.wanted o (yielded ops a.tmps)=true:=by simp[Region.wanted,hg]
 rw[if_pos hw];unfold Oper.wp;simp[execOp,hop,resolve,invoke,builtin,hd,hx,hr,Result.andThen];exact hK
theorem EE (b:Nat)(vs:List Value)(o:Nat)(w:World)(h: ∀j,j<vs.length→(w.cell? ⟨b,o+j,none⟩).isSome=true)(k:Nat)(hk:(w.cell? ⟨b,k,none⟩).isSome=true):((w.setCells b o vs).cell? ⟨b,k,none⟩).isSome=true:=by
 by_cases hin:o≤k∧k<o+vs.length
 ·have:=World.cell?_setCells_in b vs o w h (k - o) (by omega)
  rw[show o+(k - o)=k by omega] at this;rw[this];rfl
 ·rw[World.cell?_setCells_out b vs o w ⟨b,k,none⟩ (fun _ _=>by show k<o∨o+vs.length≤k;omega)]
  exact hk
set_option maxHeartbeats 4000000 in
set_option maxRecDepth 1000000 in
theorem P7 (b off n c i vb voff m vc:Nat)(cs vs:List Value)(w:World)(hi:i<n)(hm:0<m)(hroom:n+m≤c)(hc63:n+m≤9223372036854775807)(hvb:vb≠b)
  (hcl:cs.length=n) (hvl:vs.length=m)
  (hcs: ∀j v,cs[j]?=some v→w.cell? ⟨b,off+j,none⟩=some v) (hsp: ∀j,j<n+m→(w.cell? ⟨b,off+j,none⟩).isSome=true) (hfz: ∀j,j<n+m→w.frozen? ⟨b,off+j,none⟩=false)
  (hvs: ∀j v,vs[j]?=some v→w.cell? ⟨vb,voff+j,none⟩=some v) (h1c: ∀v ∈ cs,v.oneCell'=true) (h1v: ∀v ∈ vs,v.oneCell'=true)
  (tA tB:TypeId) (kA kB:Nat) (hsa:w.shape? vb=some (tA,kA)) (hsb:w.shape? b=some (tB,kB)) (hkB:kB≠0) (hfa:w.frozen? ⟨vb,voff,none⟩=false) (hfe:w.frozen? ⟨vb,kA,none⟩=false):
  Calls Tryz.prog 107 #[.slice (some ⟨b,off,none⟩) n c,.int .i64 i,.slice (some ⟨vb,voff,none⟩) m vc] w fun e w'=>
   e= .returned (.slice (some ⟨b,off,none⟩) (n+m) c)∧w'=(w.drew.setCells b (off+(i+m)) (cs.drop i)).setCells b (off+i) vs:=by
 have hz1: ¬((m:Int)=0):=by omega
 have hz2: ¬((i:Int)=(n:Int)):=by omega
 have hsz:(Tryz.prog.info? 3).map (·.size)=some 1:=by
  obtain⟨i0,hi0,h0,h1,h2⟩:=info_parts Ja;rw[hi0];simp[h1]
 have hov: ∀lb cb,(callFunc 154 #[.slice (some ⟨vb,voff,none⟩) m vc,.slice (some ⟨b,off+(i+m),none⟩) lb cb]).run Tryz.prog w= .ok (.value (.bool false)) w:=fun lb cb=>by
  rw[run_callFunc_extern Tryz.func154 (by kernel_rfl) (by kernel_rfl) (by kernel_rfl) (e:=Extern.SlicesOverlaps.overlaps #[36,36] #[4]) (by kernel_rfl),
   Lib.run_overlaps_apart w 36 4 3 Tryz.underlying36 1 (Tryz.sizeOf3) ⟨vb,voff,none⟩ ⟨b,off+(i+m),none⟩ m vc lb cb hvb tA tB kA kB hsa hsb hkB hfa hfe]
  rfl
 have hdl:(cs.drop i).length=n - i:=by rw[List.length_drop,hcl]
 have mixed:Tryz.prog.follows .mixedOrders=true:=by kernel_rfl
 have hw1:IntKind.i64.wrap ((i:Int)+(m:Int))=(i:Int)+(m:Int):=by rw[IntKind.wrap_i64];omega
 have hb1:(0:Int)≤(i:Int)+(m:Int):=by omega
 have hin:i≤n:=by omega
 have htn:((i:Int)+(m:Int)).toNat=i+m:=by omega
 have hb2: ¬(c=i+m):=by omega
 have hb3:(i:Int)≤(n:Int)+(m:Int):=by omega
 have hb4: ¬(c=i):=by omega
 have hcp1: ∀ty dc sc,(Builtin.copy_ #[36,36] ty #[.slice (some ⟨b,off+(i+m),none⟩) (n+m - (i+m)) dc,.slice (some ⟨b,off+i,none⟩) (n+m - i) sc]).run Tryz.prog w.drew= .ok (goInt (cs.drop i).length) (w.drew.setCells b (off+(i+m)) (cs.drop i)):=fun ty dc sc=>
  run_copy_cells w.drew _ _ ty 3 b (off+(i+m)) (n+m - (i+m)) dc ⟨b,off+i,none⟩ (n+m - i) sc (cs.drop i) Tryz.underlying36 hsz (by rw[hdl];simp only[Nat.min_def];split<;>omega)
   (fun j v hj=>by rw[Addr.add_lit,Nat.add_assoc];exact hcs (i+j) v (by rwa [List.getElem?_drop] at hj))
   (fun j hj=>by rw[Nat.add_assoc];exact hsp _ (by omega)) (fun j hj=>by rw[Nat.add_assoc];exact hfz _ (by omega)) (fun v hv=>h1c v (List.mem_of_mem_drop hv))
 obtain⟨W1,hW1⟩: ∃W1,W1=w.drew.setCells b (off+(i+m)) (cs.drop i):=⟨_,rfl⟩
 have hsp1: ∀k,k<n+m→(W1.cell? ⟨b,off+k,none⟩).isSome=true:=fun k hk=>by
  rw[hW1];exact EE b _ _ _ (fun j hj=>by rw[Nat.add_assoc];exact hsp _ (by omega)) _ (hsp k hk)
 have hcp2: ∀(W:World),(∀x,W.cell? x=W1.cell? x)→(∀x,W.frozen? x=W1.frozen? x)→ ∀ty dc,(Builtin.copy_ #[36,36] ty #[.slice (some ⟨b,off+i,none⟩) (n+m - i) dc,.slice (some ⟨vb,voff,none⟩) m vc]).run Tryz.prog W= .ok (goInt vs.length) (W.setCells b (off+i) vs):=fun W hWc hWf ty dc=>
  run_copy_cells W _ _ ty 3 b (off+i) (n+m - i) dc ⟨vb,voff,none⟩ m vc vs Tryz.underlying36 hsz (by rw[hvl];simp only[Nat.min_def];split<;>omega)
   (fun j v hj=>by
    rw[Addr.add_lit,hWc,hW1,World.cell?_setCells_out b _ _ _ _ (fun h _=>absurd h hvb)]
    exact hvs j v hj)
   (fun j hj=>by rw[hWc,Nat.add_assoc];exact hsp1 _ (by omega)) (fun j hj=>by rw[hWf,hW1,World.frozen?_setCells,Nat.add_assoc];exact hfz _ (by omega)) h1v
 rw[←hW1] at hcp1
 go_enter Tryz.func107,Tryz.ntmps107
 go_wp2_with (simp only[hov])
 go_region_law_o (refine Cg rfl _ _ 36 36 rfl _ _ (by simp[Act.eval,Act.put]) (by simp[Act.eval,Act.put]) (hcp1 _ _ _) ?_)
 go_wp2_with (at_builtin;refine wpList_copy_runI _ rfl _ _ 36 36 rfl _ _ rfl rfl (hcp2 _ (fun _=>rfl) (fun _=>rfl) _ _) ?_)
 go_ret
 first |exact⟨rfl,rfl⟩ |exact⟨rfl,by rw[hW1]⟩
set_option maxHeartbeats 4000000 in
set_option maxRecDepth 1000000 in
theorem LN (b off n c vb voff m vc:Nat)(vs:List Value)(w:World)(hm:0<m)(hroom:n+m≤c)(hc63:n+m≤9223372036854775807)
  (hvl:vs.length=m) (hsp: ∀j,j<m→(w.cell? ⟨b,off+n+j,none⟩).isSome=true) (hfz: ∀j,j<m→w.frozen? ⟨b,off+n+j,none⟩=false)
  (hvs: ∀j v,vs[j]?=some v→w.cell? ⟨vb,voff+j,none⟩=some v) (h1v: ∀v ∈ vs,v.oneCell'=true):
  Calls Tryz.prog 107 #[.slice (some ⟨b,off,none⟩) n c,.int .i64 n,.slice (some ⟨vb,voff,none⟩) m vc] w fun e w'=>
   e= .returned (.slice (some ⟨b,off,none⟩) (n+m) c)∧w'=w.setCells b (off+n) vs:=by
 have mixed:Tryz.prog.follows .mixedOrders=true:=by kernel_rfl
 have hz1: ¬((m:Int)=0):=by omega
 have hsrc:Src Tryz.prog 1 36 (.slice (some ⟨vb,voff,none⟩) m vc) m vs w:=Src.ofSlice w Tryz.underlying36 ⟨vb,voff,none⟩ m vc vs (by omega) (fun j u hj=>by rw[Addr.add_lit];exact hvs j u hj) h1v
 go_enter Tryz.func107,Tryz.ntmps107
 go_wp2_with (at_builtin;refine wpList_append_room1 _ rfl _ _ 36 36 rfl 3 _ _ Tryz.underlying36 Ja b off n c rfl _ rfl m vs hsrc hroom (by rw[hvl];exact hsp) (by rw[hvl];exact hfz) ?_)
 go_ret
 exact⟨rfl,rfl⟩
set_option maxHeartbeats 4000000 in
set_option maxRecDepth 1000000 in
theorem GI (base:Option Addr)(n c vb voff m vc:Nat)(cs vs:List Value)(w:World)(hm:0<m)(hnc:n≤c)(hroom:c<n+m)(hbig:(n+m) * 8≤140737488355328)
  (hcl:cs.length=n) (hvl:vs.length=m) (hnil:base=none→n=0)
  (hcs: ∀a,base=some a→ ∀j v,cs[j]?=some v→w.cell? (a.add j)=some v)
  (hvs: ∀j v,vs[j]?=some v→w.cell? ⟨vb,voff+j,none⟩=some v) (h1v: ∀v ∈ vs,v.oneCell'=true):
  Calls Tryz.prog 107 #[.slice base n c,.int .i64 n,.slice (some ⟨vb,voff,none⟩) m vc] w fun e w'=>
   e= .returned (.slice (some ⟨w.heap.size,0,none⟩) (n+m) (grownCap w (n+m) c 3))∧
   w'=w.drew.alloc (.cells ((cs++vs).toArray++Builtin.zeroCells (Value.int .i64 0).cells (grownCap w (n+m) c 3 - (n+m))) 3):=by
 have mixed:Tryz.prog.follows .mixedOrders=true:=by kernel_rfl
 obtain⟨i0,hi0,hz0,hzs,hzb⟩:=info_parts Ja
 have hz1: ¬((m:Int)=0):=by omega
 have hsrc:Src Tryz.prog i0.size 36 (.slice (some ⟨vb,voff,none⟩) m vc) m vs w:=by
  rw[hzs];exact Src.ofSlice w Tryz.underlying36 ⟨vb,voff,none⟩ m vc vs (by omega) (fun j u hj=>by rw[Addr.add_lit];exact hvs j u hj) h1v
 have hold:(Builtin.firstCells i0.size n (.slice base n c)).run Tryz.prog w.drew= .ok cs.toArray w.drew:=by
  rw[hzs]
  cases base with
  |none=>
   have h0:=hnil rfl;subst h0;rw[List.length_eq_zero_iff.1 hcl];exact run_firstCells_none w.drew 1 0 0 c
  |some a=>exact run_firstCells_some w.drew 1 n a n c cs (by omega) (fun j v hj=>hcs a rfl j v hj)
 have hrun: ∀ty,(Builtin.append_ #[36,36] ty #[.slice base n c,.slice (some ⟨vb,voff,none⟩) m vc]).run Tryz.prog w=_:=fun ty=>
  run_append_grow_src w 36 36 ty 3 i0 _ Tryz.underlying36 hi0 hz0 base n c cs hold _ m vs hsrc hroom (by omega) (by rw[hzb];exact growslice_fits hroom hbig)
 go_enter Tryz.func107,Tryz.ntmps107
 cases base with
 |none=>
  have h0:=hnil rfl;subst h0
  go_wp2_with (at_builtin;refine Lib.wpList_append_run _ rfl _ _ _ _ rfl _ _ rfl rfl _ _ (hrun _) ?_)
  go_ret
  exact⟨rfl,rfl⟩
 |some a=>
  obtain⟨ab,ao,asp⟩:=a
  go_wp2_with (at_builtin;refine Lib.wpList_append_run _ rfl _ _ _ _ rfl _ _ rfl rfl _ _ (hrun _) ?_)
  all_goals (go_ret;exact⟨rfl,rfl⟩)
set_option maxHeartbeats 4000000 in
set_option maxRecDepth 1000000 in
theorem R0 (b off n c i vb voff m vc:Nat)(cs vs:List Value)(w:World)(hi:i<n)(hm:0<m)(hnc:n≤c)(hroom:c<n+m)(hbig:(n+m) * 8≤140737488355328)
  (hcl:cs.length=n) (hvl:vs.length=m)
  (hcs: ∀j v,cs[j]?=some v→w.cell? ⟨b,off+j,none⟩=some v)
  (hvs: ∀j v,vs[j]?=some v→w.cell? ⟨vb,voff+j,none⟩=some v) (h1c: ∀v ∈ cs,v.oneCell'=true) (h1v: ∀v ∈ vs,v.oneCell'=true):
  Calls Tryz.prog 107 #[.slice (some ⟨b,off,none⟩) n c,.int .i64 i,.slice (some ⟨vb,voff,none⟩) m vc] w fun e w'=>
   e= .returned (.slice (some ⟨w.heap.size,0,none⟩) (n+m) (grownCap w (n+m) c 3))∧
   w'=(((w.alloc (.cells ((cs.take i).toArray++Builtin.zeroCells (Value.int .i64 0).cells (n+m - i)++Builtin.zeroCells (Value.int .i64 0).cells (grownCap w (n+m) c 3 - (n+m))) 3)).drew.setCells w.heap.size i vs).drew).setCells w.heap.size (i+m) (cs.drop i):=by
 have mixed:Tryz.prog.follows .mixedOrders=true:=by kernel_rfl
 obtain⟨i0,hi0,hz0,hzs,hzb⟩:=info_parts Ja
 have hz1: ¬((m:Int)=0):=by omega
 have hz2: ¬((i:Int)=(n:Int)):=by omega
 have hz3:(c:Int)<(n:Int)+(m:Int):=by omega
 have hsz:(Tryz.prog.info? 3).map (·.size)=some 1:=by rw[hi0];simp[hzs]
 have hbw:b<w.heap.size:=block_lt_of_cell (hcs 0 _ (List.getElem?_eq_getElem (by omega)));have hvw:vb<w.heap.size:=block_lt_of_cell (hvs 0 _ (List.getElem?_eq_getElem (by omega)))
 have hkk:(n:Int)+(m:Int) - (i:Int)=((n+m - i:Nat):Int):=by omega
 have hik:i+(n+m - i)=n+m:=by omega
 have hold:(Builtin.firstCells i0.size i (.slice (some ⟨b,off,none⟩) i c)).run Tryz.prog w.drew= .ok (cs.take i).toArray w.drew:=by
  rw[hzs]
  exact run_firstCells_some w.drew 1 i ⟨b,off,none⟩ i c (cs.take i) (by rw[List.length_take];omega) (fun j v hj=>by
   rw[Addr.add_lit];rw[List.getElem?_take] at hj;split at hj
   ·exact hcs j v hj
   ·cases hj)
 have hrz: ∀ty,(Builtin.append_ #[36,3] ty #[.slice (some ⟨b,off,none⟩) i c,.int .i64 ((n:Int)+(m:Int) - (i:Int))]).run Tryz.prog w=
   .ok (.slice (some ⟨w.heap.size,0,none⟩) (n+m) (grownCap w (n+m) c 3)) (w.drew.alloc (.cells ((cs.take i).toArray++Builtin.zeroCells (Value.int .i64 0).cells (n+m - i)++Builtin.zeroCells (Value.int .i64 0).cells (grownCap w (n+m) c 3 - (n+m))) 3)):=fun ty=>by
  have h:=Lib.run_append_grow_zeros w 36 3 ty 3 i0 _ .i64 .i64 Tryz.underlying36 Tryz.underlying3 hi0 hz0 (some ⟨b,off,none⟩) i c (cs.take i) hold (n+m - i) (by omega) (by omega) (by omega) (by omega) (by rw[hzb];omega) (by rw[hzb,hik];exact growslice_fits hroom hbig);rw[hik] at h;rw[hkk];exact h
 obtain⟨G,hG⟩: ∃G,G=grownCap w (n+m) c 3:=⟨_,rfl⟩;obtain⟨ROW,hROW⟩: ∃ROW:Array Value,ROW=(cs.take i).toArray++Builtin.zeroCells (Value.int .i64 0).cells (n+m - i)++Builtin.zeroCells (Value.int .i64 0).cells (G - (n+m)):=⟨_,rfl⟩;rw[←hG] at hrz ⊢;rw[←hROW] at hrz ⊢
 have hRl:n+m≤ROW.size:=by
  rw[hROW];simp[Builtin.zeroCells,Value.cells];omega
 obtain⟨W1,hW1⟩: ∃W1,W1=w.drew.alloc (.cells ROW 3):=⟨_,rfl⟩;rw[←hW1] at hrz
 have hN: ∀j,j<n+m→(W1.cell? ⟨w.heap.size,j,none⟩).isSome=true:=fun j hj=>by
  rw[hW1,World.cell?_alloc_at (w:=w.drew) ROW _ w.heap.size j rfl,Array.getElem?_eq_getElem (by omega)];rfl
 have hNf: ∀j,W1.frozen? ⟨w.heap.size,j,none⟩=false:=fun j=>by rw[hW1];exact World.frozen?_alloc_at (w:=w.drew) ROW _ w.heap.size j rfl
 have hOb: ∀j v,w.cell? ⟨b,j,none⟩=some v→W1.cell? ⟨b,j,none⟩=some v:=fun j v h=>by rw[hW1,World.cell?_alloc_past (w:=w.drew) _ b j hbw];exact h
 have hOv: ∀j v,w.cell? ⟨vb,j,none⟩=some v→W1.cell? ⟨vb,j,none⟩=some v:=fun j v h=>by rw[hW1,World.cell?_alloc_past (w:=w.drew) _ vb j hvw];exact h
 have hcpA: ∀(W:World),(∀x,W.cell? x=W1.cell? x)→(∀x,W.frozen? x=W1.frozen? x)→ ∀ty dc,(Builtin.copy_ #[36,36] ty #[.slice (some ⟨w.heap.size,i,none⟩) (n+m - i) dc,.slice (some ⟨vb,voff,none⟩) m vc]).run Tryz.prog W= .ok (goInt vs.length) (W.setCells w.heap.size i vs):=fun W hWc hWf ty dc=>
  run_copy_cells W _ _ ty 3 w.heap.size i (n+m - i) dc ⟨vb,voff,none⟩ m vc vs Tryz.underlying36 hsz (by rw[hvl];simp only[Nat.min_def];split<;>omega)
   (fun j v hj=>by rw[Addr.add_lit,hWc];exact hOv _ v (hvs j v hj))
   (fun j hj=>by rw[hWc];exact hN _ (by omega)) (fun j hj=>by rw[hWf];exact hNf _) h1v
 have hGn:n+m≤G:=by rw[hG];exact grownCap_ge w _ _ _
 have hG63:G≤9223372036854775807:=by
  have:=grownCap_le_maxLen w (n+m) c 3 (by unfold maxLen;omega);rw[←hG] at this;unfold maxLen at this;omega
 have hGi: ¬(G=i):=by omega
 have hGim: ¬(G=i+m):=by omega
 have hci: ¬(c=i):=by omega
 have hbN:b≠w.heap.size:=by omega
 have hdl:(cs.drop i).length=n - i:=by rw[List.length_drop,hcl]
 have hcpB: ∀(W:World),(∀x,W.cell? x=(W1.setCells w.heap.size i vs).cell? x)→(∀x,W.frozen? x=(W1.setCells w.heap.size i vs).frozen? x)→ ∀ty dc sc,(Builtin.copy_ #[36,36] ty #[.slice (some ⟨w.heap.size,i+m,none⟩) (n+m - (i+m)) dc,.slice (some ⟨b,off+i,none⟩) (n - i) sc]).run Tryz.prog W= .ok (goInt (cs.drop i).length) (W.setCells w.heap.size (i+m) (cs.drop i)):=fun W hWc hWf ty dc sc=>
  run_copy_cells W _ _ ty 3 w.heap.size (i+m) (n+m - (i+m)) dc ⟨b,off+i,none⟩ (n - i) sc (cs.drop i) Tryz.underlying36 hsz (by rw[hdl];simp only[Nat.min_def];split<;>omega)
   (fun j v hj=>by
    rw[Addr.add_lit,hWc,World.cell?_setCells_out _ _ _ _ _ (fun h _=>absurd h hbN),Nat.add_assoc]
    exact hOb _ v (hcs (i+j) v (by rwa [List.getElem?_drop] at hj)))
   (fun j hj=>by rw[hWc];exact EE _ _ _ _ (fun t ht=>hN _ (by omega)) _ (hN _ (by omega)))
   (fun j hj=>by rw[hWf,World.frozen?_setCells];exact hNf _) (fun v hv=>h1c v (List.mem_of_mem_drop hv))
 subst hW1;have hE1: ∀x,((w.alloc (.cells ROW 3)).drew).cell? x=(w.drew.alloc (.cells ROW 3)).cell? x:=fun x=>rfl;have hE2: ∀x,((w.alloc (.cells ROW 3)).drew).frozen? x=(w.drew.alloc (.cells ROW 3)).frozen? x:=fun x=>rfl;have hF1: ∀x,(((w.alloc (.cells ROW 3)).drew.setCells w.heap.size i vs).drew).cell? x=((w.drew.alloc (.cells ROW 3)).setCells w.heap.size i vs).cell? x:=fun x=>rfl;have hF2: ∀x,(((w.alloc (.cells ROW 3)).drew.setCells w.heap.size i vs).drew).frozen? x=((w.drew.alloc (.cells ROW 3)).setCells w.heap.size i vs).frozen? x:=fun x=>rfl
 have hw1:IntKind.i64.wrap ((i:Int)+(m:Int))=(i:Int)+(m:Int):=by rw[IntKind.wrap_i64];omega
 have hb1:(0:Int)≤(i:Int)+(m:Int):=by omega
 have hin:i≤n:=by omega
 have htn:((i:Int)+(m:Int)).toNat=i+m:=by omega
 have hb3:(i:Int)≤(n:Int):=by omega
 clear hkk hik hold hROW hG hRl
 go_enter Tryz.func107,Tryz.ntmps107
 go_wp2_with (first
  |(at_builtin;refine Lib.wpList_append_run _ rfl _ _ _ _ rfl _ _ rfl rfl _ _ (hrz _) ?_)
  |(at_builtin;refine wpList_copy_runI _ rfl _ _ 36 36 rfl _ _ rfl rfl (hcpA _ hE1 hE2 _ _) ?_)
  |(at_builtin;refine wpList_copy_runI _ rfl _ _ 36 36 rfl _ _ rfl rfl (hcpB _ (fun _=>rfl) (fun _=>rfl) _ _ _) ?_))
 go_region_law_o (refine Cg rfl _ _ 36 36 rfl (.slice (some ⟨w.heap.size,i+m,none⟩) (n+m - (i+m)) (G - (i+m))) (.slice (some ⟨b,off+i,none⟩) (n - i) (c - i)) (by simp[Act.eval,Act.put]) (by simp[Act.eval,Act.put]) (hcpB _ hF1 hF2 3 (G - (i+m)) (c - i)) ?_)
 go_wp2
 go_ret
 exact⟨rfl,rfl⟩
set_option maxHeartbeats 4000000 in
set_option maxRecDepth 1000000 in
theorem P6 (b off n c i vb voff m vc:Nat)(cs vs:List Value)(w:World)(hi:i<n)(hm:0<m)(hroom:n+m≤c)(hc63:n+m≤9223372036854775807)(hvb:vb≠b)
  (hcl:cs.length=n) (hvl:vs.length=m)
  (hcs: ∀j v,cs[j]?=some v→w.cell? ⟨b,off+j,none⟩=some v) (hsp: ∀j,j<n+m→(w.cell? ⟨b,off+j,none⟩).isSome=true) (hfz: ∀j,j<n+m→w.frozen? ⟨b,off+j,none⟩=false)
  (hvs: ∀j v,vs[j]?=some v→w.cell? ⟨vb,voff+j,none⟩=some v) (h1c: ∀v ∈ cs,v.oneCell'=true) (h1v: ∀v ∈ vs,v.oneCell'=true)
  (tA tB:TypeId) (kA kB:Nat) (hsa:w.shape? vb=some (tA,kA)) (hsb:w.shape? b=some (tB,kB)) (hkB:kB≠0) (hfa:w.frozen? ⟨vb,voff,none⟩=false) (hfe:w.frozen? ⟨vb,kA,none⟩=false):
  Calls Tryz.prog 106 #[.slice (some ⟨b,off,none⟩) n c,.int .i64 i,.slice (some ⟨vb,voff,none⟩) m vc] w fun e w'=>
   e= .returned (.slice (some ⟨b,off,none⟩) (n+m) c)∧w'=(w.drew.setCells b (off+(i+m)) (cs.drop i)).setCells b (off+i) vs:=by
 have hz1: ¬((m:Int)=0):=by omega
 have hz2: ¬((i:Int)=(n:Int)):=by omega
 have hsz:(Tryz.prog.info? 81).map (·.size)=some 1:=by
  obtain⟨i0,hi0,h0,h1,h2⟩:=info_parts J_;rw[hi0];simp[h1]
 have hov: ∀lb cb,(callFunc 152 #[.slice (some ⟨vb,voff,none⟩) m vc,.slice (some ⟨b,off+(i+m),none⟩) lb cb]).run Tryz.prog w= .ok (.value (.bool false)) w:=fun lb cb=>by
  rw[run_callFunc_extern Tryz.func152 (by kernel_rfl) (by kernel_rfl) (by kernel_rfl) (e:=Extern.SlicesOverlaps.overlaps #[129,129] #[4]) (by kernel_rfl),
   Lib.run_overlaps_apart w 129 4 81 Tryz.underlying129 1 (Tryz.sizeOf81) ⟨vb,voff,none⟩ ⟨b,off+(i+m),none⟩ m vc lb cb hvb tA tB kA kB hsa hsb hkB hfa hfe]
  rfl
 have hdl:(cs.drop i).length=n - i:=by rw[List.length_drop,hcl]
 have mixed:Tryz.prog.follows .mixedOrders=true:=by kernel_rfl
 have hw1:IntKind.i64.wrap ((i:Int)+(m:Int))=(i:Int)+(m:Int):=by rw[IntKind.wrap_i64];omega
 have hb1:(0:Int)≤(i:Int)+(m:Int):=by omega
 have hin:i≤n:=by omega
 have htn:((i:Int)+(m:Int)).toNat=i+m:=by omega
 have hb2: ¬(c=i+m):=by omega
 have hb3:(i:Int)≤(n:Int)+(m:Int):=by omega
 have hb4: ¬(c=i):=by omega
 have hcp1: ∀ty dc sc,(Builtin.copy_ #[129,129] ty #[.slice (some ⟨b,off+(i+m),none⟩) (n+m - (i+m)) dc,.slice (some ⟨b,off+i,none⟩) (n+m - i) sc]).run Tryz.prog w.drew= .ok (goInt (cs.drop i).length) (w.drew.setCells b (off+(i+m)) (cs.drop i)):=fun ty dc sc=>
  run_copy_cells w.drew _ _ ty 81 b (off+(i+m)) (n+m - (i+m)) dc ⟨b,off+i,none⟩ (n+m - i) sc (cs.drop i) Tryz.underlying129 hsz (by rw[hdl];simp only[Nat.min_def];split<;>omega)
   (fun j v hj=>by rw[Addr.add_lit,Nat.add_assoc];exact hcs (i+j) v (by rwa [List.getElem?_drop] at hj))
   (fun j hj=>by rw[Nat.add_assoc];exact hsp _ (by omega)) (fun j hj=>by rw[Nat.add_assoc];exact hfz _ (by omega)) (fun v hv=>h1c v (List.mem_of_mem_drop hv))
 obtain⟨W1,hW1⟩: ∃W1,W1=w.drew.setCells b (off+(i+m)) (cs.drop i):=⟨_,rfl⟩
 have hsp1: ∀k,k<n+m→(W1.cell? ⟨b,off+k,none⟩).isSome=true:=fun k hk=>by
  rw[hW1];exact EE b _ _ _ (fun j hj=>by rw[Nat.add_assoc];exact hsp _ (by omega)) _ (hsp k hk)
 have hcp2: ∀(W:World),(∀x,W.cell? x=W1.cell? x)→(∀x,W.frozen? x=W1.frozen? x)→ ∀ty dc,(Builtin.copy_ #[129,129] ty #[.slice (some ⟨b,off+i,none⟩) (n+m - i) dc,.slice (some ⟨vb,voff,none⟩) m vc]).run Tryz.prog W= .ok (goInt vs.length) (W.setCells b (off+i) vs):=fun W hWc hWf ty dc=>
  run_copy_cells W _ _ ty 81 b (off+i) (n+m - i) dc ⟨vb,voff,none⟩ m vc vs Tryz.underlying129 hsz (by rw[hvl];simp only[Nat.min_def];split<;>omega)
   (fun j v hj=>by
    rw[Addr.add_lit,hWc,hW1,World.cell?_setCells_out b _ _ _ _ (fun h _=>absurd h hvb)]
    exact hvs j v hj)
   (fun j hj=>by rw[hWc,Nat.add_assoc];exact hsp1 _ (by omega)) (fun j hj=>by rw[hWf,hW1,World.frozen?_setCells,Nat.add_assoc];exact hfz _ (by omega)) h1v
 rw[←hW1] at hcp1
 go_enter Tryz.func106,Tryz.ntmps106
 go_wp2_with (simp only[hov])
 go_region_law_o (refine Cg rfl _ _ 129 129 rfl _ _ (by simp[Act.eval,Act.put]) (by simp[Act.eval,Act.put]) (hcp1 _ _ _) ?_)
 go_wp2_with (at_builtin;refine wpList_copy_runI _ rfl _ _ 129 129 rfl _ _ rfl rfl (hcp2 _ (fun _=>rfl) (fun _=>rfl) _ _) ?_)
 go_ret
 first |exact⟨rfl,rfl⟩ |exact⟨rfl,by rw[hW1]⟩
set_option maxHeartbeats 4000000 in
set_option maxRecDepth 1000000 in
theorem LM (b off n c vb voff m vc:Nat)(vs:List Value)(w:World)(hm:0<m)(hroom:n+m≤c)(hc63:n+m≤9223372036854775807)
  (hvl:vs.length=m) (hsp: ∀j,j<m→(w.cell? ⟨b,off+n+j,none⟩).isSome=true) (hfz: ∀j,j<m→w.frozen? ⟨b,off+n+j,none⟩=false)
  (hvs: ∀j v,vs[j]?=some v→w.cell? ⟨vb,voff+j,none⟩=some v) (h1v: ∀v ∈ vs,v.oneCell'=true):
  Calls Tryz.prog 106 #[.slice (some ⟨b,off,none⟩) n c,.int .i64 n,.slice (some ⟨vb,voff,none⟩) m vc] w fun e w'=>
   e= .returned (.slice (some ⟨b,off,none⟩) (n+m) c)∧w'=w.setCells b (off+n) vs:=by
 have mixed:Tryz.prog.follows .mixedOrders=true:=by kernel_rfl
 have hz1: ¬((m:Int)=0):=by omega
 have hsrc:Src Tryz.prog 1 129 (.slice (some ⟨vb,voff,none⟩) m vc) m vs w:=Src.ofSlice w Tryz.underlying129 ⟨vb,voff,none⟩ m vc vs (by omega) (fun j u hj=>by rw[Addr.add_lit];exact hvs j u hj) h1v
 go_enter Tryz.func106,Tryz.ntmps106
 go_wp2_with (at_builtin;refine wpList_append_room1 _ rfl _ _ 129 129 rfl 81 _ _ Tryz.underlying129 J_ b off n c rfl _ rfl m vs hsrc hroom (by rw[hvl];exact hsp) (by rw[hvl];exact hfz) ?_)
 go_ret
 exact⟨rfl,rfl⟩
set_option maxHeartbeats 4000000 in
set_option maxRecDepth 1000000 in
theorem GH (base:Option Addr)(n c vb voff m vc:Nat)(cs vs:List Value)(w:World)(hm:0<m)(hnc:n≤c)(hroom:c<n+m)(hbig:(n+m) * 24≤140737488355328)
  (hcl:cs.length=n) (hvl:vs.length=m) (hnil:base=none→n=0)
  (hcs: ∀a,base=some a→ ∀j v,cs[j]?=some v→w.cell? (a.add j)=some v)
  (hvs: ∀j v,vs[j]?=some v→w.cell? ⟨vb,voff+j,none⟩=some v) (h1v: ∀v ∈ vs,v.oneCell'=true):
  Calls Tryz.prog 106 #[.slice base n c,.int .i64 n,.slice (some ⟨vb,voff,none⟩) m vc] w fun e w'=>
   e= .returned (.slice (some ⟨w.heap.size,0,none⟩) (n+m) (grownCap w (n+m) c 81))∧
   w'=w.drew.alloc (.cells ((cs++vs).toArray++Builtin.zeroCells (Value.slice none 0 0).cells (grownCap w (n+m) c 81 - (n+m))) 81):=by
 have mixed:Tryz.prog.follows .mixedOrders=true:=by kernel_rfl
 obtain⟨i0,hi0,hz0,hzs,hzb⟩:=info_parts J_
 have hz1: ¬((m:Int)=0):=by omega
 have hsrc:Src Tryz.prog i0.size 129 (.slice (some ⟨vb,voff,none⟩) m vc) m vs w:=by
  rw[hzs];exact Src.ofSlice w Tryz.underlying129 ⟨vb,voff,none⟩ m vc vs (by omega) (fun j u hj=>by rw[Addr.add_lit];exact hvs j u hj) h1v
 have hold:(Builtin.firstCells i0.size n (.slice base n c)).run Tryz.prog w.drew= .ok cs.toArray w.drew:=by
  rw[hzs]
  cases base with
  |none=>
   have h0:=hnil rfl;subst h0;rw[List.length_eq_zero_iff.1 hcl];exact run_firstCells_none w.drew 1 0 0 c
  |some a=>exact run_firstCells_some w.drew 1 n a n c cs (by omega) (fun j v hj=>hcs a rfl j v hj)
 have hrun: ∀ty,(Builtin.append_ #[129,129] ty #[.slice base n c,.slice (some ⟨vb,voff,none⟩) m vc]).run Tryz.prog w=_:=fun ty=>
  run_append_grow_src w 129 129 ty 81 i0 _ Tryz.underlying129 hi0 hz0 base n c cs hold _ m vs hsrc hroom (by omega) (by rw[hzb];exact growslice_fits hroom hbig)
 go_enter Tryz.func106,Tryz.ntmps106
 cases base with
 |none=>
  have h0:=hnil rfl;subst h0
  go_wp2_with (at_builtin;refine Lib.wpList_append_run _ rfl _ _ _ _ rfl _ _ rfl rfl _ _ (hrun _) ?_)
  go_ret
  exact⟨rfl,rfl⟩
 |some a=>
  obtain⟨ab,ao,asp⟩:=a
  go_wp2_with (at_builtin;refine Lib.wpList_append_run _ rfl _ _ _ _ rfl _ _ rfl rfl _ _ (hrun _) ?_)
  all_goals (go_ret;exact⟨rfl,rfl⟩)
set_option maxHeartbeats 4000000 in
set_option maxRecDepth 1000000 in
theorem Qz (b off n c i vb voff m vc:Nat)(cs vs:List Value)(w:World)(hi:i<n)(hm:0<m)(hnc:n≤c)(hroom:c<n+m)(hbig:(n+m) * 24≤140737488355328)
  (hcl:cs.length=n) (hvl:vs.length=m)
  (hcs: ∀j v,cs[j]?=some v→w.cell? ⟨b,off+j,none⟩=some v)
  (hvs: ∀j v,vs[j]?=some v→w.cell? ⟨vb,voff+j,none⟩=some v) (h1c: ∀v ∈ cs,v.oneCell'=true) (h1v: ∀v ∈ vs,v.oneCell'=true):
  Calls Tryz.prog 106 #[.slice (some ⟨b,off,none⟩) n c,.int .i64 i,.slice (some ⟨vb,voff,none⟩) m vc] w fun e w'=>
   e= .returned (.slice (some ⟨w.heap.size,0,none⟩) (n+m) (grownCap w (n+m) c 81))∧
   w'=(((w.alloc (.cells ((cs.take i).toArray++Builtin.zeroCells (Value.slice none 0 0).cells (n+m - i)++Builtin.zeroCells (Value.slice none 0 0).cells (grownCap w (n+m) c 81 - (n+m))) 81)).drew.setCells w.heap.size i vs).drew).setCells w.heap.size (i+m) (cs.drop i):=by
 have mixed:Tryz.prog.follows .mixedOrders=true:=by kernel_rfl
 obtain⟨i0,hi0,hz0,hzs,hzb⟩:=info_parts J_
 have hz1: ¬((m:Int)=0):=by omega
 have hz2: ¬((i:Int)=(n:Int)):=by omega
 have hz3:(c:Int)<(n:Int)+(m:Int):=by omega
 have hsz:(Tryz.prog.info? 81).map (·.size)=some 1:=by rw[hi0];simp[hzs]
 have hbw:b<w.heap.size:=block_lt_of_cell (hcs 0 _ (List.getElem?_eq_getElem (by omega)));have hvw:vb<w.heap.size:=block_lt_of_cell (hvs 0 _ (List.getElem?_eq_getElem (by omega)))
 have hkk:(n:Int)+(m:Int) - (i:Int)=((n+m - i:Nat):Int):=by omega
 have hik:i+(n+m - i)=n+m:=by omega
 have hold:(Builtin.firstCells i0.size i (.slice (some ⟨b,off,none⟩) i c)).run Tryz.prog w.drew= .ok (cs.take i).toArray w.drew:=by
  rw[hzs]
  exact run_firstCells_some w.drew 1 i ⟨b,off,none⟩ i c (cs.take i) (by rw[List.length_take];omega) (fun j v hj=>by
   rw[Addr.add_lit];rw[List.getElem?_take] at hj;split at hj
   ·exact hcs j v hj
   ·cases hj)
 have hrz: ∀ty,(Builtin.append_ #[129,3] ty #[.slice (some ⟨b,off,none⟩) i c,.int .i64 ((n:Int)+(m:Int) - (i:Int))]).run Tryz.prog w=
   .ok (.slice (some ⟨w.heap.size,0,none⟩) (n+m) (grownCap w (n+m) c 81)) (w.drew.alloc (.cells ((cs.take i).toArray++Builtin.zeroCells (Value.slice none 0 0).cells (n+m - i)++Builtin.zeroCells (Value.slice none 0 0).cells (grownCap w (n+m) c 81 - (n+m))) 81)):=fun ty=>by
  have h:=Lib.run_append_grow_zeros w 129 3 ty 81 i0 _ .i64 .i64 Tryz.underlying129 Tryz.underlying3 hi0 hz0 (some ⟨b,off,none⟩) i c (cs.take i) hold (n+m - i) (by omega) (by omega) (by omega) (by omega) (by rw[hzb];omega) (by rw[hzb,hik];exact growslice_fits hroom hbig);rw[hik] at h;rw[hkk];exact h
 obtain⟨G,hG⟩: ∃G,G=grownCap w (n+m) c 81:=⟨_,rfl⟩;obtain⟨ROW,hROW⟩: ∃ROW:Array Value,ROW=(cs.take i).toArray++Builtin.zeroCells (Value.slice none 0 0).cells (n+m - i)++Builtin.zeroCells (Value.slice none 0 0).cells (G - (n+m)):=⟨_,rfl⟩;rw[←hG] at hrz ⊢;rw[←hROW] at hrz ⊢
 have hRl:n+m≤ROW.size:=by
  rw[hROW];simp[Builtin.zeroCells,Value.cells];omega
 obtain⟨W1,hW1⟩: ∃W1,W1=w.drew.alloc (.cells ROW 81):=⟨_,rfl⟩;rw[←hW1] at hrz
 have hN: ∀j,j<n+m→(W1.cell? ⟨w.heap.size,j,none⟩).isSome=true:=fun j hj=>by
  rw[hW1,World.cell?_alloc_at (w:=w.drew) ROW _ w.heap.size j rfl,Array.getElem?_eq_getElem (by omega)];rfl
 have hNf: ∀j,W1.frozen? ⟨w.heap.size,j,none⟩=false:=fun j=>by rw[hW1];exact World.frozen?_alloc_at (w:=w.drew) ROW _ w.heap.size j rfl
 have hOb: ∀j v,w.cell? ⟨b,j,none⟩=some v→W1.cell? ⟨b,j,none⟩=some v:=fun j v h=>by rw[hW1,World.cell?_alloc_past (w:=w.drew) _ b j hbw];exact h
 have hOv: ∀j v,w.cell? ⟨vb,j,none⟩=some v→W1.cell? ⟨vb,j,none⟩=some v:=fun j v h=>by rw[hW1,World.cell?_alloc_past (w:=w.drew) _ vb j hvw];exact h
 have hcpA: ∀(W:World),(∀x,W.cell? x=W1.cell? x)→(∀x,W.frozen? x=W1.frozen? x)→ ∀ty dc,(Builtin.copy_ #[129,129] ty #[.slice (some ⟨w.heap.size,i,none⟩) (n+m - i) dc,.slice (some ⟨vb,voff,none⟩) m vc]).run Tryz.prog W= .ok (goInt vs.length) (W.setCells w.heap.size i vs):=fun W hWc hWf ty dc=>
  run_copy_cells W _ _ ty 81 w.heap.size i (n+m - i) dc ⟨vb,voff,none⟩ m vc vs Tryz.underlying129 hsz (by rw[hvl];simp only[Nat.min_def];split<;>omega)
   (fun j v hj=>by rw[Addr.add_lit,hWc];exact hOv _ v (hvs j v hj))
   (fun j hj=>by rw[hWc];exact hN _ (by omega)) (fun j hj=>by rw[hWf];exact hNf _) h1v
 have hGn:n+m≤G:=by rw[hG];exact grownCap_ge w _ _ _
 have hG63:G≤9223372036854775807:=by
  have:=grownCap_le_maxLen w (n+m) c 81 (by unfold maxLen;omega);rw[←hG] at this;unfold maxLen at this;omega
 have hGi: ¬(G=i):=by omega
 have hGim: ¬(G=i+m):=by omega
 have hci: ¬(c=i):=by omega
 have hbN:b≠w.heap.size:=by omega
 have hdl:(cs.drop i).length=n - i:=by rw[List.length_drop,hcl]
 have hcpB: ∀(W:World),(∀x,W.cell? x=(W1.setCells w.heap.size i vs).cell? x)→(∀x,W.frozen? x=(W1.setCells w.heap.size i vs).frozen? x)→ ∀ty dc sc,(Builtin.copy_ #[129,129] ty #[.slice (some ⟨w.heap.size,i+m,none⟩) (n+m - (i+m)) dc,.slice (some ⟨b,off+i,none⟩) (n - i) sc]).run Tryz.prog W= .ok (goInt (cs.drop i).length) (W.setCells w.heap.size (i+m) (cs.drop i)):=fun W hWc hWf ty dc sc=>
  run_copy_cells W _ _ ty 81 w.heap.size (i+m) (n+m - (i+m)) dc ⟨b,off+i,none⟩ (n - i) sc (cs.drop i) Tryz.underlying129 hsz (by rw[hdl];simp only[Nat.min_def];split<;>omega)
   (fun j v hj=>by
    rw[Addr.add_lit,hWc,World.cell?_setCells_out _ _ _ _ _ (fun h _=>absurd h hbN),Nat.add_assoc]
    exact hOb _ v (hcs (i+j) v (by rwa [List.getElem?_drop] at hj)))
   (fun j hj=>by rw[hWc];exact EE _ _ _ _ (fun t ht=>hN _ (by omega)) _ (hN _ (by omega)))
   (fun j hj=>by rw[hWf,World.frozen?_setCells];exact hNf _) (fun v hv=>h1c v (List.mem_of_mem_drop hv))
 subst hW1;have hE1: ∀x,((w.alloc (.cells ROW 81)).drew).cell? x=(w.drew.alloc (.cells ROW 81)).cell? x:=fun x=>rfl;have hE2: ∀x,((w.alloc (.cells ROW 81)).drew).frozen? x=(w.drew.alloc (.cells ROW 81)).frozen? x:=fun x=>rfl;have hF1: ∀x,(((w.alloc (.cells ROW 81)).drew.setCells w.heap.size i vs).drew).cell? x=((w.drew.alloc (.cells ROW 81)).setCells w.heap.size i vs).cell? x:=fun x=>rfl;have hF2: ∀x,(((w.alloc (.cells ROW 81)).drew.setCells w.heap.size i vs).drew).frozen? x=((w.drew.alloc (.cells ROW 81)).setCells w.heap.size i vs).frozen? x:=fun x=>rfl
 have hw1:IntKind.i64.wrap ((i:Int)+(m:Int))=(i:Int)+(m:Int):=by rw[IntKind.wrap_i64];omega
 have hb1:(0:Int)≤(i:Int)+(m:Int):=by omega
 have hin:i≤n:=by omega
 have htn:((i:Int)+(m:Int)).toNat=i+m:=by omega
 have hb3:(i:Int)≤(n:Int):=by omega
 clear hkk hik hold hROW hG hRl
 go_enter Tryz.func106,Tryz.ntmps106
 go_wp2_with (first
  |(at_builtin;refine Lib.wpList_append_run _ rfl _ _ _ _ rfl _ _ rfl rfl _ _ (hrz _) ?_)
  |(at_builtin;refine wpList_copy_runI _ rfl _ _ 129 129 rfl _ _ rfl rfl (hcpA _ hE1 hE2 _ _) ?_)
  |(at_builtin;refine wpList_copy_runI _ rfl _ _ 129 129 rfl _ _ rfl rfl (hcpB _ (fun _=>rfl) (fun _=>rfl) _ _ _) ?_))
 go_region_law_o (refine Cg rfl _ _ 129 129 rfl (.slice (some ⟨w.heap.size,i+m,none⟩) (n+m - (i+m)) (G - (i+m))) (.slice (some ⟨b,off+i,none⟩) (n - i) (c - i)) (by simp[Act.eval,Act.put]) (by simp[Act.eval,Act.put]) (hcpB _ hF1 hF2 3 (G - (i+m)) (c - i)) ?_)
 go_wp2
 go_ret
 exact⟨rfl,rfl⟩
end Go.Proofs.YtekljlenlbhmcaaGreatDoor
namespace Go.AM
open Go Go.RowKit
def Bn {α:Type}(l:List α)(i:Nat)(x:α):List α:=l.take i++x::l.drop i
theorem Co {α:Type}{l:List α}{i:Nat}(x:α)(h:i≤l.length):(Bn l i x).length=l.length+1:=by
 unfold Bn;rw[List.length_append,List.length_cons,List.length_take,List.length_drop];omega
theorem F_ {α:Type}{l:List α}{i:Nat}(x:α)(h:i≤l.length)(q:Nat):(Bn l i x)[q]?=if q<i then l[q]? else if q=i then some x else l[q - 1]?:=by
 unfold Bn
 have hl:(l.take i).length=i:=by rw[List.length_take];omega
 by_cases hq:q<i
 ·rw[if_pos hq,List.getElem?_append_left (by omega),List.getElem?_take_of_lt hq]
 ·rw[if_neg hq,List.getElem?_append_right (by omega),hl]
  by_cases e:q=i
  ·subst e;simp
  ·rw[if_neg e]
   obtain⟨m,rfl⟩: ∃m,q=i+(m+1):=⟨q - i - 1,by omega⟩;rw[show i+(m+1) - i=m+1 by omega,List.getElem?_cons_succ,List.getElem?_drop]
   congr 1
theorem Na {α β:Type}(f:α→β)(l:List α)(i:Nat)(x:α):(Bn l i x).map f=Bn (l.map f) i (f x):=by
 simp[Bn,List.map_append,List.map_take,List.map_drop]
abbrev LB (T:TypeId)(w w':World)(n:Nat)(ls:List Value)(e:Ending):Prop:=
 ∃c' row,e= .returned (.slice (some ⟨w.heap.size,0,none⟩) (n+1) c')∧n+1≤c'∧Sys w w'∧w.heap.size≤w'.heap.size∧(∀k,k<w.heap.size→w'.heap[k]?=w.heap[k]?)∧
  w'.heap[w.heap.size]?=some (.cells row T (0,0))∧c'≤row.size∧ ∀m,m<n+1→row[m]?=ls[m]?
def TG (T:TypeId)(w w':World)(b off n c:Nat)(ls:List Value)(e:Ending):Prop:=
 (e= .returned (.slice (some ⟨b,off,none⟩) (n+1) c)∧n+1≤c∧Sys w w'∧w'.heap.size=w.heap.size∧(∀k,k≠b→w'.heap[k]?=w.heap[k]?)∧
  ∀cells fr,w.heap[b]?=some (.cells cells T fr)→off+c≤cells.size→ ∃cells',w'.heap[b]?=some (.cells cells' T fr)∧cells'.size=cells.size∧ ∀m,m<n+1→cells'[off+m]?=ls[m]?)∨
 LB T w w' n ls e
theorem It (T:TypeId){w:World}{b off n c i:Nat}{cs:List Value}{y:Value}(hcl:cs.length=n)(hi:i<n)(hc:n+1≤c)(hcs: ∀(j:Nat) v,cs[j]?=some v→w.cell? ⟨b,off+j,none⟩=some v):
  TG T w ((w.drew.setCells b (off+(i+1)) (cs.drop i)).setCells b (off+i) [y]) b off n c (Bn cs i y) (.returned (.slice (some ⟨b,off,none⟩) (n+1) c)):=by
 have hd:w.drew.heap=w.heap:=rfl;have s1:=Ag b (cs.drop i) (off+(i+1)) w.drew;have s2:=Ag b [y] (off+i) (w.drew.setCells b (off+(i+1)) (cs.drop i));obtain⟨u0,hu0⟩: ∃u,cs[0]?=some u:=⟨_,List.getElem?_eq_getElem (by omega)⟩
 obtain⟨cells0,T0,fr0,hb0⟩: ∃cells T0 fr,w.heap[b]?=some (.cells cells T0 fr):=by
  have:=hcs 0 u0 hu0;unfold World.cell? at this;split at this
  ·rename_i q;exact⟨_,_,_,q⟩
  all_goals first |cases this |(simp at this)
 obtain⟨a1,a2,a3⟩:=Az b (cs.drop i) (off+(i+1)) w.drew cells0 T0 fr0 hb0;obtain⟨b1,b2,b3⟩:=Az b [y] (off+i) (w.drew.setCells b (off+(i+1)) (cs.drop i)) _ T0 fr0 a3;refine .inl ⟨rfl,hc,(show Sys w w.drew from⟨rfl,rfl,rfl⟩).trans (s1.trans s2),by rw[b1,a1,hd],fun k hk=>by rw[b2 k hk,a2 k hk,hd],fun cells fr hb hsz=>?_⟩;rw[hb0] at hb;cases hb
 have hdl:(cs.drop i).length=n - i:=by rw[List.length_drop,hcl]
 have hS1:=Av (cs.drop i) (off+(i+1)) cells0 (by rw[hdl];omega);have hS2:=Av [y] (off+i) (CH cells0 (off+(i+1)) (cs.drop i)) (by rw[Ab,List.length_singleton];omega);refine⟨_,b3,by rw[Ab,Ab],fun m hm=>?_⟩;rw[hS2,List.length_singleton,F_ y (by omega),hS1,hdl]
 by_cases h1:m<i
 ·rw[if_pos h1,if_neg (by omega),if_neg (by omega)]
  obtain⟨v,hv⟩: ∃v,cs[m]?=some v:=⟨_,List.getElem?_eq_getElem (by omega)⟩;rw[hv,←As hb0];exact hcs m v hv
 ·rw[if_neg h1]
  by_cases h2:m=i
  ·subst h2;rw[if_pos rfl,if_pos (by omega),Nat.sub_self];rfl
  ·rw[if_neg h2,if_neg (by omega),if_pos (by omega),List.getElem?_drop]
   congr 1;omega
theorem Lq (T:TypeId){w:World}{b off n c:Nat}{cs:List Value}{y:Value}(hcl:cs.length=n)(hc:n+1≤c)(hcs: ∀(j:Nat) v,cs[j]?=some v→w.cell? ⟨b,off+j,none⟩=some v)(hex: ∃cells T fr,w.heap[b]?=some (.cells cells T fr)):
  TG T w (w.setCells b (off+n) [y]) b off n c (Bn cs n y) (.returned (.slice (some ⟨b,off,none⟩) (n+1) c)):=by
 have s1:=Ag b [y] (off+n) w;obtain⟨cells0,T0,fr0,hb0⟩:=hex;obtain⟨a1,a2,a3⟩:=Az b [y] (off+n) w cells0 T0 fr0 hb0;refine .inl ⟨rfl,hc,s1,a1,a2,fun cells fr hb hsz=>?_⟩;rw[hb0] at hb;cases hb;have hS1:=Av [y] (off+n) cells0 (by rw[List.length_singleton];omega);refine⟨_,a3,by rw[Ab],fun m hm=>?_⟩;rw[hS1,List.length_singleton,F_ y (by omega)]
 by_cases h1:m<n
 ·rw[if_pos h1,if_neg (by omega)]
  obtain⟨v,hv⟩: ∃v,cs[m]?=some v:=⟨_,List.getElem?_eq_getElem (by omega)⟩;rw[hv,←As hb0];exact hcs m v hv
 ·obtain rfl:m=n:=by omega
  rw[if_pos (show off+m≤off+m∧off+m<off+m+1 by omega),if_neg (Nat.lt_irrefl _),if_pos rfl,Nat.sub_self];rfl
theorem Sa {α:Type}(l:List α)(y:α):Bn l l.length y=l++[y]:=by simp[Bn]
theorem Fv (T:TypeId){w:World}{n c':Nat}{cs:List Value}{y:Value}{z:Array Value}(hcl:cs.length=n)(hc:n+1≤c')(hz:c'≤n+1+z.size):
  LB T w (w.drew.alloc (.cells ((cs++[y]).toArray++z) T)) n (Bn cs n y) (.returned (.slice (some ⟨w.heap.size,0,none⟩) (n+1) c')):=by
 refine⟨c',_,rfl,hc,⟨rfl,rfl,rfl⟩,?_,fun k hk=>?_,World.alloc_heap_new w.drew _,?_,fun m hm=>?_⟩
 ·show w.heap.size≤(w.heap.push _).size
  simp
 ·show(w.heap.push _)[k]?=_
  rw[Array.getElem?_push,if_neg (by omega)]
 ·simp[hcl];omega
 ·rw[←hcl,Sa,Array.getElem?_append_left (by simp[hcl];exact hm)]
  simp
theorem Fa (T:TypeId){w:World}{n c' i:Nat}{cs:List Value}{y:Value}{z1 z2:Array Value}(hcl:cs.length=n)(hi:i<n)(hc:n+1≤c')(h1:z1.size=n+1 - i)(h2:z2.size=c' - (n+1)):
  LB T w ((((w.alloc (.cells ((cs.take i).toArray++z1++z2) T)).drew.setCells w.heap.size i [y]).drew).setCells w.heap.size (i+1) (cs.drop i)) n (Bn cs i y) (.returned (.slice (some ⟨w.heap.size,0,none⟩) (n+1) c')):=by
 obtain⟨row,hrow⟩: ∃row:Array Value,row=(cs.take i).toArray++z1++z2:=⟨_,rfl⟩
 have hsz:row.size=c':=by rw[hrow];simp[hcl,h1,h2];omega
 have hpre: ∀m,m<i→row[m]?=cs[m]?:=fun m hm=>by
  rw[hrow,Array.append_assoc,Array.getElem?_append_left (by simp[hcl];omega)];simp[List.getElem?_take,hm]
 rw[←hrow];clear hrow;obtain⟨w1,hw1⟩: ∃w1,w1=(w.alloc (.cells row T)).drew:=⟨_,rfl⟩
 have hb:w1.heap[w.heap.size]?=some (.cells row T (0,0)):=by rw[hw1];exact World.alloc_heap_new w _
 have hs1:w1.heap.size=w.heap.size+1:=by rw[hw1];show(w.heap.push _).size=_;simp
 have ho: ∀k,k<w.heap.size→w1.heap[k]?=w.heap[k]?:=fun k hk=>by
  rw[hw1];show(w.heap.push _)[k]?=_
  rw[Array.getElem?_push,if_neg (by omega)]
 have hy1:Sys w w1:=by rw[hw1];exact⟨rfl,rfl,rfl⟩
 rw[←hw1];clear hw1;obtain⟨a1,a2,a3⟩:=Az w.heap.size [y] i w1 row T (0,0) hb;have s1:=Ag w.heap.size [y] i w1;generalize hw2:w1.setCells w.heap.size i [y]=w2 at a1 a2 a3 s1 ⊢;obtain⟨b1,b2,b3⟩:=Az w.heap.size (cs.drop i) (i+1) w2.drew (CH row i [y]) T (0,0) a3;have s2:=Ag w.heap.size (cs.drop i) (i+1) w2.drew;have hd:w2.drew.heap=w2.heap:=rfl;refine⟨c',_,rfl,hc,hy1.trans (s1.trans ((show Sys w2 w2.drew from⟨rfl,rfl,rfl⟩).trans s2)),by rw[b1,hd,a1,hs1];omega,fun k hk=>by rw[b2 k (by omega),hd,a2 k (by omega),ho k hk],b3,by rw[Ab,Ab,hsz];exact Nat.le_refl _,fun m hm=>?_⟩
 have hdl:(cs.drop i).length=n - i:=by rw[List.length_drop,hcl]
 have hS1:=Av [y] i row (by rw[List.length_singleton];omega);have hS2:=Av (cs.drop i) (i+1) (CH row i [y]) (by rw[Ab,hdl];omega);rw[hS2,F_ y (by omega),hS1,hdl,List.length_singleton]
 by_cases q1:m<i
 ·rw[if_neg (show ¬(i+1≤m∧m<i+1+(n - i)) by omega),if_neg (show ¬(i≤m∧m<i+1) by omega),if_pos q1,hpre m q1]
 ·by_cases q2:m=i
  ·subst q2
   rw[if_neg (show ¬(m+1≤m∧m<m+1+(n - m)) by omega),if_pos (show m≤m∧m<m+1 by omega),if_neg q1,if_pos rfl,Nat.sub_self];rfl
  ·rw[if_pos (show i+1≤m∧m<i+1+(n - i) by omega),if_neg q1,if_neg q2,List.getElem?_drop]
   congr 1;omega
end Go.AM
namespace Go.AM
open Go Go.RowKit
theorem NU {w w':World}{own:Nat→Prop}{z:AT}{G:List (Nat×List Value)}{o:List (Nat×Nd)}{th:List NLoc}{n:Nat}{L:NLoc}{nd:Nd}(hm:Mem ⟨w,own,z,G,th,[]⟩ o n th z w)(hp:L.ph=false)(hL:L.b<w'.heap.size)(hz: ∀t,¬z t L.b)(hown:own L.b∨w.heap.size≤L.b)
  (hs:w.heap.size≤w'.heap.size) (hb: ∀b,b<w.heap.size→ ¬own b→w'.heap[b]?=w.heap[b]?) (hzb: ∀t b,z t b→w'.heap[b]?=w.heap[b]?) (hy:Sys w w') (hn:NdAt w' z (th++[L]) L nd) (hu:nd.isU=false):Mem ⟨w,own,z,G,th,[]⟩ [(n,nd)] (n+1) (th++[L]) z w':=by
 have hlen:=hm.len;refine⟨by rw[List.length_append,hlen];rfl,fun i x hi=>?_,fun i j x y A B hi hj hA hB _ _ _=>?_,fun t b hz=>Nat.lt_of_lt_of_le (hm.zlt t b hz) hs,hs,fun b hb1 hb2=>hb b hb1 hb2,fun t b h=>h,fun b h=> .inl h,fun b h=>h,fun g cs hg=>?_,fun i M h=>Ae _ h,hy,FN (by simp[IC,hu])⟩
 ·simp only[lk] at hi
  by_cases h0:n=i
  ·subst h0;rw[if_pos rfl] at hi;cases hi
   refine⟨L,?_,hn,fun _=>⟨hL,hz,hown⟩⟩;rw[List.getElem?_append_right (by omega),hlen,Nat.sub_self];rfl
  ·rw[if_neg h0] at hi;cases hi
 ·simp only[lk] at hi hj
  by_cases h0:n=i
  ·by_cases h1:n=j
   ·omega
   ·rw[if_neg h1] at hj;cases hj
  ·rw[if_neg h0] at hi;cases hi
 ·obtain⟨h1,h2⟩:=hm.globs g cs hg
  exact⟨h1,fun j u hu=>(B7 (hzb true g h1) j).trans (h2 j u hu)⟩
set_option maxHeartbeats 2000000 in
theorem Pz {P:Program}{f T:Nat}(G:List (Nat×List Value))(hok:K9 P f=true)(xs:List AV)(x:AV)(i:Nat)(hi:i≤xs.length)(hn:xs.length≤1048576)
  (H: ∀(w:World)(b off c vb voff vc:Nat)(cs:List Value)(y:Value),vb≠b→(∀(j:Nat) v,cs[j]?=some v→w.cell? ⟨b,off+j,none⟩=some v)→(∀j,j<c→(w.cell? ⟨b,off+j,none⟩).isSome=true∧w.frozen? ⟨b,off+j,none⟩=false)→w.cell? ⟨vb,voff,none⟩=some y→
   (∀v ∈ cs,v.oneCell'=true)→y.oneCell'=true→cs.length≤c→i≤cs.length→cs.length≤1048576→(∃tA kA,w.shape? vb=some (tA,kA)∧w.frozen? ⟨vb,voff,none⟩=false∧w.frozen? ⟨vb,kA,none⟩=false)→(∃cells fr,w.heap[b]?=some (.cells cells T fr))→
   Calls P f #[.slice (some ⟨b,off,none⟩) cs.length c,.int .i64 i,.slice (some ⟨vb,voff,none⟩) 1 vc] w fun e w'=>TG T w w' b off cs.length c (Bn cs i y) e)
  (H0: ∀(w:World)(vb voff vc:Nat)(y:Value),w.cell? ⟨vb,voff,none⟩=some y→y.oneCell'=true→Calls P f #[.slice none 0 0,.int .i64 0,.slice (some ⟨vb,voff,none⟩) 1 vc] w fun e w'=>LB T w w' 0 [y] e):
  Con P G f [.s 0 0 xs.length,.r (.int .i64 i),.s 1 0 1] [(0,.lst T 1 (xs.map sg)),(1,.lst T 1 [sg x])] 2 (Is (.s 2 0 (xs.length+1)) [(2,.lst T 1 ((Bn xs i x).map sg))] 3) No:=by
 refine⟨hok,fun w th z own vs ho hmem hr=>?_⟩;obtain⟨v,r,rfl,g1,g2⟩:=hr.head;obtain⟨v2,r2,rfl,g3,g4⟩:=g2.head;obtain⟨v3,r3,rfl,g5,g6⟩:=g4.head;obtain rfl:=g3.r_inv;obtain rfl:=g6.of_nil
 obtain⟨L,M,rfl⟩: ∃L M,th=[L,M]:=by
  have:=hmem.len
  match th,this with
  | [a,b],_=>exact⟨a,b,rfl⟩
 obtain⟨L',e1,e2,e3⟩:=hmem.nds 0 _ rfl
 obtain rfl:L=L':=by simpa using e1
 obtain⟨M',d1,d2,d3⟩:=hmem.nds 1 _ rfl
 obtain rfl:M=M':=by simpa using d1
 rcases d2 with ⟨dp,de⟩ |⟨dp,dcells,dfr,db,df,dk,dsz,dle,dcl⟩
 ·simp at de
 obtain⟨y,y1,y2,y3⟩:=(dcl 0 (sg x) rfl).2 0 x rfl;simp only[Nat.zero_mul,Nat.add_zero] at y1
 obtain⟨vc,xo,rfl,hv1,hv2,hxo⟩: ∃c o,v3= .slice (some ⟨M.b,o,none⟩) 1 c∧1≤c∧c≤M.cap∧o=M.o:=by
  generalize hq:(1:Nat)=q at g5
  cases g5 with
  |s _ _ _ _ c o M' hL hp' h3 h4 h5=>
   obtain rfl:M=M':=by simpa[←hq] using hL
   exact⟨c,o,rfl,h3,by omega,by simpa using h5 (by omega)⟩
  |sn _ _ _ M' hL hp'=>exact absurd hq (by omega)
 subst hxo
 have hycell:w.cell? ⟨M.b,M.o,none⟩=some y:=by rw[As db];exact y1
 have hdsz:M.o<dcells.size:=(Array.getElem?_eq_some_iff.1 y1).1;have hshape: ∃tA kA,w.shape? M.b=some (tA,kA)∧w.frozen? ⟨M.b,M.o,none⟩=false∧w.frozen? ⟨M.b,kA,none⟩=false:=
  ⟨T,dcells.size,by simp[World.shape?,db],E_ db df hdsz,KW db df (Nat.lt_succ_self _)⟩
 have hmemb:=fun(b:Nat)(hb:b<w.heap.size)(_: ¬own b)=>(rfl:w.heap[b]?=w.heap[b]?);have fresh: ∀(cs:List Value) e w',(∀(q:Nat) a,(Bn xs i x)[q]?=some a→ ∃u,(Bn cs i y)[q]?=some u∧Rep w z [] a u∧u.oneCell'=true)→LB T w w' xs.length (Bn cs i y) e→
   ∃v u o' n' th' z',((e= .returned v∧Is (.s 2 0 (xs.length+1)) [(2,.lst T 1 ((Bn xs i x).map sg))] 3 u o' n')∨(e= .panicked [{v:=v,recovered:=false}]∧No u o' n'))∧Mem ⟨w,own,z,G,[L,M],[]⟩ o' n' th' z' w'∧Rep w' z' th' u v:=by
  rintro cs e w' hel ⟨c',row,rfl,hc',hsys,hsize,hold,hnew,hrow,hget⟩;have hle:Le w z w' z:=⟨fun _ _ h=>h,fun t b hz=>hold b (hmem.zlt t b hz)⟩;refine⟨_,.s 2 0 (xs.length+1),_,3,[L,M]++[⟨w.heap.size,0,1,c',false⟩],z,.inl ⟨rfl,rfl,rfl,rfl⟩,NU hmem rfl (Array.getElem?_eq_some_iff.1 hnew).1 (fun t hz=>Nat.lt_irrefl _ (hmem.zlt t _ hz)) (.inr (Nat.le_refl _)) hsize (fun b hb _=>hold b hb) (fun t b hz=>hold b (hmem.zlt t b hz)) hsys ?_ rfl,.s _ 2 0 _ c' 0 ⟨w.heap.size,0,1,c',false⟩ rfl rfl hc' (by simp) (fun _=>by simp)⟩;refine .inr ⟨rfl,row,(0,0),hnew,fun i _=>by simp,rfl,by simpa using hrow,by rw[List.length_map,Co x hi];exact hc',fun q el hq=>?_⟩;rw[List.getElem?_map] at hq;obtain⟨a,ha,rfl⟩:=Option.map_eq_some_iff.1 hq;refine⟨rfl,fun j a' ha'=>?_⟩
  have hj:j=0:=by
   have:j<1:=(List.getElem?_eq_some_iff.1 ha').1;omega
  subst hj
  obtain rfl:a=a':=by simpa[sg] using ha'
  obtain⟨u,u1,u2,u3⟩:=hel q a ha
  have hql:q<xs.length+1:=by rw[←Co x hi];exact(List.getElem?_eq_some_iff.1 ha).1
  exact⟨u,by simp only[Nat.mul_one,Nat.zero_add,Nat.add_zero];rw[hget q hql];exact u1,u2.on' hle,u3⟩
 rcases e2 with ⟨hp,he⟩ |⟨hp,cells,fr,hb,hf,hk,hsz,hle,hcl⟩
 ·
  obtain rfl:xs=[]:=by simpa using he
  obtain rfl:i=0:=by simpa using hi
  have hv:v= .slice none 0 0:=by
   cases g1 with
   |s _ _ _ _ c o L2 hL hp'=>obtain rfl:L=L2:=by simpa using hL
                             rw[hp] at hp';cases hp'
   |sn=>rfl
  subst hv;refine(H0 w M.b M.o vc y hycell y3).mono fun e w' h=>?_;refine fresh [] e w' (fun q a hq=>?_) h;have hq:[x][q]?=some a:=hq;show ∃u,[y][q]?=some u∧Rep w z [] a u∧u.oneCell'=true
  cases q with
  |zero=>cases hq;exact⟨y,rfl,y2,y3⟩
  |succ q=>simp at hq
 have hlt:=(e3 hp).1;have hown:own L.b:=ho _ ⟨0,_,L,rfl,rfl,hp,rfl⟩;have hnz:=(e3 hp).2.1
 obtain⟨c,o,rfl,hc1,hc2,hx0⟩: ∃c o,v= .slice (some ⟨L.b,o,none⟩) xs.length c∧xs.length≤c∧c≤L.cap∧(0<c→o=L.o):=by
  generalize hq:xs.length=q at g1
  cases g1 with
  |s _ _ _ _ c o L2 hL hp' h3 h4 h5=>
   obtain rfl:L=L2:=by simpa using hL
   exact⟨c,o,rfl,h3,by omega,fun hc=>by simpa using h5 hc⟩
  |sn _ _ _ L2 hL hp'=>obtain rfl:L=L2:=by simpa using hL
                       rw[hp] at hp';cases hp'
 rw[hk] at hsz
 have hne:M.b≠L.b:=fun e=>by
  have:=hmem.inj 1 0 _ _ M L rfl rfl rfl rfl dp hp e;cases this
 have hold: ∀(j:Nat) a,xs[j]?=some a→ ∃u,cells[L.o+j]?=some u∧Rep w z [] a u∧u.oneCell'=true:=by
  intro j a hj;obtain⟨_,q2⟩:=hcl j (sg a) (by rw[List.getElem?_map,hj];rfl);obtain⟨u,q3,q4,q5⟩:=q2 0 a rfl;rw[hk] at q3;exact⟨u,by simpa using q3,q4,q5⟩
 obtain⟨cs,hcs⟩: ∃cs,cs=(cells.toList.drop L.o).take xs.length:=⟨_,rfl⟩
 have hll:cs.length=xs.length:=by
  have:cells.toList.length=cells.size:=rfl;rw[hcs,List.length_take,List.length_drop];omega
 have hlg: ∀m,m<xs.length→cs[m]?=cells[L.o+m]?:=by
  intro m hm;rw[hcs,List.getElem?_take_of_lt hm,List.getElem?_drop,Array.getElem?_toList]
 have hlx: ∀(m:Nat) u,cs[m]?=some u→ ∃a,xs[m]?=some a∧cells[L.o+m]?=some u∧Rep w z [] a u∧u.oneCell'=true:=by
  intro m u hu
  have hm:m<xs.length:=by rw[←hll];exact(List.getElem?_eq_some_iff.1 hu).1
  obtain⟨u',h1,h2,h3⟩:=hold m xs[m] (List.getElem?_eq_getElem hm);rw[hlg m hm] at hu;rw[hu] at h1;cases h1;exact⟨_,List.getElem?_eq_getElem hm,hu,h2,h3⟩
 have hel: ∀(q:Nat) a,(Bn xs i x)[q]?=some a→ ∃u,(Bn cs i y)[q]?=some u∧Rep w z [] a u∧u.oneCell'=true:=by
  intro q a hq;rw[F_ x hi] at hq;rw[F_ y (by omega)]
  have get: ∀m,xs[m]?=some a→ ∃u,cs[m]?=some u∧Rep w z [] a u∧u.oneCell'=true:=fun m hm=>by
   obtain⟨u,h1,h2,h3⟩:=hold m a hm;exact⟨u,by rw[hlg m (List.getElem?_eq_some_iff.1 hm).1];exact h1,h2,h3⟩
  by_cases h1:q<i
  ·rw[if_pos h1] at hq ⊢;exact get q hq
  ·rw[if_neg h1] at hq ⊢
   by_cases h2:q=i
   ·rw[if_pos h2] at hq ⊢;cases hq;exact⟨y,rfl,y2,y3⟩
   ·rw[if_neg h2] at hq ⊢;exact get _ hq
 have hoff:0<c→o=L.o:=hx0
 have hrun:=H w L.b o c M.b M.o vc cs y hne (fun j u hu=>by
   obtain⟨_,_,h,_,_⟩:=hlx j u hu
   have hj:j<xs.length:=by rw[←hll];exact(List.getElem?_eq_some_iff.1 hu).1
   rw[hoff (by omega),As hb];exact h)
  (fun j hj=>by
   rw[hoff (by omega)]
   have:L.o+j<cells.size:=by omega
   exact⟨by rw[As hb,Array.getElem?_eq_getElem this];rfl,E_ hb hf this⟩)
  hycell (fun u hu=>by
   obtain⟨m,hm⟩:=List.mem_iff_getElem?.1 hu;obtain⟨_,_,_,_,h⟩:=hlx m u hm
   exact h) y3 (by omega) (by omega) (by omega) hshape ⟨cells,fr,hb⟩
 rw[hll] at hrun;refine hrun.mono ?_;rintro e w' (⟨rfl,hcn,hsys,hsize,hother,hcells⟩ |hnew)
 ·obtain rfl:=hoff (by omega)
  obtain⟨cells',hb',hs',hget⟩:=hcells cells fr hb (by omega);have hLe:Le w z w' z:=⟨fun _ _ h=>h,fun t b hz=>hother b (fun e=>hnz t (e▸hz))⟩;refine⟨_,.s 2 0 (xs.length+1),_,3,[L,M]++[L],z,.inl ⟨rfl,rfl,rfl,rfl⟩,NU hmem hp (by rw[hsize];exact hlt) hnz (.inl hown) (Nat.le_of_eq hsize.symm) (fun b _ hb2=>hother b (fun e=>hb2 (e▸hown))) (fun t b hz=>hLe.same t b hz) hsys ?_ rfl,.s _ 2 0 _ c L.o L rfl hp hcn (by omega) (fun _=>by simp)⟩;refine .inr ⟨hp,cells',fr,hb',fun m hm=>hf m (by omega),hk,by rw[hs',hk];exact hsz,by rw[List.length_map,Co x hi];omega,fun q el hq=>?_⟩;rw[List.getElem?_map] at hq;obtain⟨a,ha,rfl⟩:=Option.map_eq_some_iff.1 hq;refine⟨by rw[hk];rfl,fun j a' ha'=>?_⟩
  have hj:j=0:=by
   have:j<1:=(List.getElem?_eq_some_iff.1 ha').1;omega
  subst hj
  obtain rfl:a=a':=by simpa[sg] using ha'
  obtain⟨u,u1,u2,u3⟩:=hel q a ha
  have hql:q<xs.length+1:=by rw[←Co x hi];exact(List.getElem?_eq_some_iff.1 ha).1
  exact⟨u,by rw[hk,Nat.mul_one,Nat.add_zero,hget q hql];exact u1,u2.on' hLe,u3⟩
 ·exact fresh cs e w' hel hnew
end Go.AM
namespace Go.AM
open Go Go.RowKit Go.Lib
set_option maxHeartbeats 1000000 in
theorem Sd (G:List (Nat×List Value))(l:List Int)(a:Int)(i:Nat)(hi:i≤l.length)(hn:l.length≤1048576):
  Con prog G 107 [.s 0 0 l.length,.r (.int .i64 i),.s 1 0 1] [(0,.lst 3 1 (l.map eI)),(1,.lst 3 1 [eI a])] 2 (Is (.s 2 0 (l.length+1)) [(2,.lst 3 1 ((Bn l i a).map eI))] 3) No:=by
 have key:=Pz (P:=prog) (f:=107) (T:=3) G (by kernel_rfl) (l.map fun a=> .r (.int .i64 a)) (.r (.int .i64 a)) i (by simpa using hi) (by simpa using hn)
  (fun w b off c vb voff vc cs y hne hcs hfr hy h1c h1y hlc hic hn1 hsh hex=>by
   obtain⟨tA,kA,s1,s2,s3⟩:=hsh;obtain⟨cells,fr,hb⟩:=hex
   have hvs: ∀(j:Nat) v,[y][j]?=some v→w.cell? ⟨vb,voff+j,none⟩=some v:=fun j v hj=>by
    cases j with
    |zero=>cases hj;exact hy
    |succ j=>simp at hj
   have h1v: ∀v ∈ [y],v.oneCell'=true:=fun v hv=>by simp at hv;subst hv;exact h1y
   by_cases hin:i<cs.length
   ·by_cases hroom:cs.length+1≤c
    ·have hsz:cells.size≠0:=by
      have:=(hfr 0 (by omega)).1;rw[As hb] at this;intro e;rw[Array.getElem?_eq_none (by omega)] at this;cases this
     refine(Go.Proofs.YtekljlenlbhmcaaGreatDoor.P7 b off cs.length c i vb voff 1 vc cs [y] w hin (by omega) hroom (by omega) hne rfl rfl hcs (fun j hj=>(hfr j (by omega)).1) (fun j hj=>(hfr j (by omega)).2) hvs h1c h1v tA 3 kA cells.size s1 (by simp[World.shape?,hb]) hsz s2 s3).mono ?_;rintro e w' ⟨rfl,rfl⟩;exact It 3 rfl hin hroom hcs
    ·refine(Go.Proofs.YtekljlenlbhmcaaGreatDoor.R0 b off cs.length c i vb voff 1 vc cs [y] w hin (by omega) hlc (by omega) (by omega) rfl rfl hcs hvs h1c h1v).mono ?_
     rintro e w' ⟨rfl,rfl⟩;exact .inr (Fa 3 rfl hin (grownCap_ge w _ _ _) (by simp[Builtin.zeroCells,Value.cells]) (by simp[Builtin.zeroCells,Value.cells]))
   ·obtain rfl:i=cs.length:=by omega
    by_cases hroom:cs.length+1≤c
    ·refine(Go.Proofs.YtekljlenlbhmcaaGreatDoor.LN b off cs.length c vb voff 1 vc [y] w (by omega) hroom (by omega) rfl (fun j hj=>by rw[Nat.add_assoc];exact(hfr _ (by omega)).1) (fun j hj=>by rw[Nat.add_assoc];exact(hfr _ (by omega)).2) hvs h1v).mono ?_
     rintro e w' ⟨rfl,rfl⟩;exact Lq 3 rfl hroom hcs ⟨cells,_,fr,hb⟩
    ·refine(Go.Proofs.YtekljlenlbhmcaaGreatDoor.GI (some ⟨b,off,none⟩) cs.length c vb voff 1 vc cs [y] w (by omega) hlc (by omega) (by omega) rfl rfl (fun e=>by cases e) (fun a ha j v hj=>by cases ha;rw[Addr.add_lit];exact hcs j v hj) hvs h1v).mono ?_
     rintro e w' ⟨rfl,rfl⟩
     exact .inr (Fv 3 rfl (grownCap_ge w _ _ _) (by simp[Builtin.zeroCells,Value.cells];omega)))
  (fun w vb voff vc y hy h1y=>by
   have hvs: ∀(j:Nat) v,[y][j]?=some v→w.cell? ⟨vb,voff+j,none⟩=some v:=fun j v hj=>by
    cases j with
    |zero=>cases hj;exact hy
    |succ j=>simp at hj
   have h1v: ∀v ∈ [y],v.oneCell'=true:=fun v hv=>by simp at hv;subst hv;exact h1y
   refine(Go.Proofs.YtekljlenlbhmcaaGreatDoor.GI none 0 0 vb voff 1 vc [] [y] w (by omega) (by omega) (by omega) (by omega) rfl rfl (fun _=>rfl) (fun a ha=>by cases ha) hvs h1v).mono ?_;rintro e w' ⟨rfl,rfl⟩
   exact Fv (cs:=[]) 3 rfl (grownCap_ge w _ _ _) (by simp[Builtin.zeroCells,Value.cells];omega))
 rw[←Na,List.map_map,List.map_map,List.length_map] at key;exact key
set_option maxHeartbeats 1000000 in
theorem Sc (G:List (Nat×List Value))(l:List Ky)(a:Ky)(i:Nat)(hi:i≤l.length)(hn:l.length≤1048576):
  Con prog G 106 [.s 0 0 l.length,.r (.int .i64 i),.s 1 0 1] [(0,.lst 81 1 (l.map Aj)),(1,.lst 81 1 [Aj a])] 2 (Is (.s 2 0 (l.length+1)) [(2,.lst 81 1 ((Bn l i a).map Aj))] 3) No:=by
 have key:=Pz (P:=prog) (f:=106) (T:=81) G (by kernel_rfl) (l.map fun a=> .ro true 1 (a.map AC)) (.ro true 1 (a.map AC)) i (by simpa using hi) (by simpa using hn)
  (fun w b off c vb voff vc cs y hne hcs hfr hy h1c h1y hlc hic hn1 hsh hex=>by
   obtain⟨tA,kA,s1,s2,s3⟩:=hsh;obtain⟨cells,fr,hb⟩:=hex
   have hvs: ∀(j:Nat) v,[y][j]?=some v→w.cell? ⟨vb,voff+j,none⟩=some v:=fun j v hj=>by
    cases j with
    |zero=>cases hj;exact hy
    |succ j=>simp at hj
   have h1v: ∀v ∈ [y],v.oneCell'=true:=fun v hv=>by simp at hv;subst hv;exact h1y
   by_cases hin:i<cs.length
   ·by_cases hroom:cs.length+1≤c
    ·have hsz:cells.size≠0:=by
      have:=(hfr 0 (by omega)).1;rw[As hb] at this;intro e;rw[Array.getElem?_eq_none (by omega)] at this;cases this
     refine(Go.Proofs.YtekljlenlbhmcaaGreatDoor.P6 b off cs.length c i vb voff 1 vc cs [y] w hin (by omega) hroom (by omega) hne rfl rfl hcs (fun j hj=>(hfr j (by omega)).1) (fun j hj=>(hfr j (by omega)).2) hvs h1c h1v tA 81 kA cells.size s1 (by simp[World.shape?,hb]) hsz s2 s3).mono ?_;rintro e w' ⟨rfl,rfl⟩;exact It 81 rfl hin hroom hcs
    ·refine(Go.Proofs.YtekljlenlbhmcaaGreatDoor.Qz b off cs.length c i vb voff 1 vc cs [y] w hin (by omega) hlc (by omega) (by omega) rfl rfl hcs hvs h1c h1v).mono ?_
     rintro e w' ⟨rfl,rfl⟩;exact .inr (Fa 81 rfl hin (grownCap_ge w _ _ _) (by simp[Builtin.zeroCells,Value.cells]) (by simp[Builtin.zeroCells,Value.cells]))
   ·obtain rfl:i=cs.length:=by omega
    by_cases hroom:cs.length+1≤c
    ·refine(Go.Proofs.YtekljlenlbhmcaaGreatDoor.LM b off cs.length c vb voff 1 vc [y] w (by omega) hroom (by omega) rfl (fun j hj=>by rw[Nat.add_assoc];exact(hfr _ (by omega)).1) (fun j hj=>by rw[Nat.add_assoc];exact(hfr _ (by omega)).2) hvs h1v).mono ?_
     rintro e w' ⟨rfl,rfl⟩;exact Lq 81 rfl hroom hcs ⟨cells,_,fr,hb⟩
    ·refine(Go.Proofs.YtekljlenlbhmcaaGreatDoor.GH (some ⟨b,off,none⟩) cs.length c vb voff 1 vc cs [y] w (by omega) hlc (by omega) (by omega) rfl rfl (fun e=>by cases e) (fun a ha j v hj=>by cases ha;rw[Addr.add_lit];exact hcs j v hj) hvs h1v).mono ?_
     rintro e w' ⟨rfl,rfl⟩
     exact .inr (Fv 81 rfl (grownCap_ge w _ _ _) (by simp[Builtin.zeroCells,Value.cells];omega)))
  (fun w vb voff vc y hy h1y=>by
   have hvs: ∀(j:Nat) v,[y][j]?=some v→w.cell? ⟨vb,voff+j,none⟩=some v:=fun j v hj=>by
    cases j with
    |zero=>cases hj;exact hy
    |succ j=>simp at hj
   have h1v: ∀v ∈ [y],v.oneCell'=true:=fun v hv=>by simp at hv;subst hv;exact h1y
   refine(Go.Proofs.YtekljlenlbhmcaaGreatDoor.GH none 0 0 vb voff 1 vc [] [y] w (by omega) (by omega) (by omega) (by omega) rfl rfl (fun _=>rfl) (fun a ha=>by cases ha) hvs h1v).mono ?_;rintro e w' ⟨rfl,rfl⟩
   exact Fv (cs:=[]) 81 rfl (grownCap_ge w _ _ _) (by simp[Builtin.zeroCells,Value.cells];omega))
 rw[←Na,List.map_map,List.map_map,List.length_map] at key;exact key
end Go.AM
namespace Go.AM
open Go Go.RowKit
attribute [local irreducible] AWP Aw
set_option maxHeartbeats 2000000 in
theorem O7 (w:World)(a:Option Addr)(c:Nat):Calls prog 156 #[.slice a 0 c] w fun e w'=>(∃v,e= .returned v∧w'.ownsRow w.heap.size 81 1 v 0 [])∧Below w.heap.size w w':=by
 have hq: ∀w,(binOp .eql 129 (.slice a 0 c) (.slice none 0 0)).run prog w= .ok (.bool a.isNone) w:=fun w=>Lib.run_eql_slice_nil w 129 81 a 0 c 0 0 underlying129
 go_enter func156,ntmps156
 cases a with
 |none=>
  go_wp2
  go_ret
  exact⟨⟨.slice none 0 0,rfl,World.ownsRow_nil _ _ _ _⟩,Below.refl _ _⟩
 |some p=>
  go_wp2
  go_ret
  exact⟨⟨.slice (some ⟨w.heap.size,0,none⟩) 0 0,rfl,rfl,.inr ⟨w.heap.size,0,#[],rfl,Nat.le_refl _,World.alloc_heap_new w _,Nat.le_refl _,Nat.zero_le _,rfl,rfl⟩⟩,(Below.refl _ w).alloc (Nat.le_refl _) _⟩
theorem Mr (G:List (Nat×List Value))(t:Bool)(x:Ky)(l:List Ky)(hl:l.length≤1048576):Con prog G 156 [.ro t 1 ((x::l).map Aj)] [] 0 (Is (.s 0 0 (x::l).length) [(0,.lst 81 1 ((x::l).map Aj))] 1) No:=by
 refine AA func156 rfl (by kernel_rfl) (of_decide_eq_true (by kernel_rfl)) ?_;intro E hG hE;subst hG;simp only[B9];(repeat' (first |refine A0 ?_ |refine A6 ?_ |((refine rR (fun K kp hK hkp=>?_));simp(implicitDefEqProofs:=false) (maxSteps:=2000000) (disch:=omega) only[go_sem];(repeat' (first |(refine hK _ ?_;clear hK hkp kp K) |(with_reducible refine And.intro ?_ ?_) |omega))) |refine A4 rfl ?_ |refine A8 ?_));(refine A7 (by(simp(implicitDefEqProofs:=false) (maxSteps:=2000000) (disch:=omega) only[go_sem,results156]);rfl) ?_;refine(Cx hE [1] rfl ?_ ?_).s<;>simp[AG,AO,lk,ren,renL,A9,AL])
theorem J5 (G:List (Nat×List Value))(t:Bool)(l:List Ky)(hl:l.length≤1048576):Con prog G 156 [.ro t 1 (l.map Aj)] [] 0 (Is (.s 0 0 l.length) [(0,.lst 81 1 (l.map Aj))] 1) No:=by
 cases l with
 |cons x r=>exact Mr G t x r (by simp only[List.length_cons] at hl;omega)
 |nil=>
  exact J2 (P:=prog) (T:=81) (k:=1) (els:=[]) (fl:=[]) (by kernel_rfl) (fun i e h=>by simp at h) (fun w z vs hz hr hG=>by
   obtain⟨v,r,rfl,h1,h2⟩:=hr.head;obtain rfl:=h2.of_nil;obtain⟨a,c,rfl⟩:=Ek h1
   exact O7 w a c)
end Go.AM
namespace Go.AM
open Go Go.RowKit
theorem Br {w:World}{z:AT}{th:List NLoc}{t:Bool}{k:Nat}{x y:AV}{v:Value}(h:Rep w z th (.tup [.agg [.r (.slice none 0 0),x],y]) v):Rep w z th (.tup [.agg [.ro t k [],x],y]) v:=by
 cases h with
 |tup _ c ys hl hx=>
  refine .tup _ _ ys hl (fun i u q h1 h2=>?_)
  cases i with
  |zero=>
   have:=hx 0 _ q rfl h2;cases h1
   cases this with
   |agg _ c2 us hl2 hx2=>
    refine .agg _ _ us hl2 (fun j u2 q2 h3 h4=>?_)
    cases j with
    |zero=>
     have:=hx2 0 _ q2 rfl h4;cases h3
     cases this with
     |r=>exact .nil _ _ _ _ _
    |succ j=>exact hx2 (j+1) u2 q2 h3 h4
  |succ i=>exact hx (i+1) u q h1 h2
noncomputable def Gn (R:List PG×Int×Int):AV:= .tup [.agg [.ro true 5 (R.1.map eP),.r (.int .i64 R.2.1)],.r (.int .i64 R.2.2)]
theorem Jb (t:Bool)(ps:List PG):Cv t (ps.map uP)=ps.map (Mo t):=CT t uP (Mo t) (UL t) ps
attribute [go_sem] Jb
end Go.AM
namespace Go.AM
open Go Go.RowKit
attribute [local irreducible] AWP Aw
mutual
theorem TR: ∀x:AV,wk x x
 | .agg a=>FM a
 | .r v=>by unfold wk;split<;>first |trivial |rfl |(rename_i e;cases e)
 | .ro _ _ _ | .re _ _ _ | .s _ _ _ | .p _ _ _ | .tup _ | .fn _ _ | .ifc _ _ | .q _ | .u _ _ _ | .any=>by simp[wk]
theorem FM: ∀c:List AV,LF c c
 | []=>trivial
 |x::r=>⟨TR x,FM r⟩
end
theorem Ml {E:Env}{N:Nat}{st:AS}(n:Nat){T:TypeId}{k:Nat}{els els':List (List AV)}(h:lk st.o n=some (.lst T k els))(hl:els'.length=els.length)(hw: ∀(i:Nat)(e e':List AV),els[i]?=some e→els'[i]?=some e'→LF e e'):Emb E N st (Ad st n (.lst T k els')):=fun th z a w hs=>
 ⟨th,z,hs.say h fun L hL hA=>by
  rcases hA with ⟨h1,h2⟩ |⟨hp,cells,fr,h1,h2,h3,h4,h5,h6⟩
  ·subst h2;exact .inl ⟨h1,List.length_eq_zero_iff.1 hl⟩
  ·refine .inr ⟨hp,cells,fr,h1,h2,h3,h4,by rw[hl];exact h5,fun i e' he'=>?_⟩
   have hi:i<els.length:=by rw[←hl];exact(List.getElem?_eq_some_iff.1 he').1
   obtain⟨e,he⟩: ∃e,els[i]?=some e:=⟨_,List.getElem?_eq_getElem hi⟩;obtain⟨g1,g2⟩:=h6 i e he;have hk:=hw i e e' he he'
   have hr:Reps w z [] e (e.mapIdx fun j _=>(cells[L.o+i * L.k+j]?).getD undef):=by
    refine⟨by simp,fun j x y h1 h2=>?_⟩;rw[List.getElem?_mapIdx,h1] at h2;obtain⟨y',hy',hr,_⟩:=g2 j x h1;rw[hy'] at h2;cases h2;exact hr
   have hr':=JL hk hr;refine⟨by rw[←hr'.1,hr.1,g1],fun j x hx=>?_⟩;obtain⟨y,hy,hrx⟩:=hr'.get hx
   have hj:j<e.length:=by rw[←hr.1];exact(List.getElem?_eq_some_iff.1 hy).1
   obtain⟨y',hy',_,ho⟩:=g2 j _ (List.getElem?_eq_getElem hj);rw[List.getElem?_mapIdx,List.getElem?_eq_getElem hj,hy'] at hy;cases hy
   exact⟨y',hy',hrx,ho⟩⟩
theorem Hn {P:Program}{E:Env}{N:Nat}{st:AS}{AQ:AExit→AS→Prop}{id:Nat}{c rest:Code}(fx:AS)(h:AWP P E N rest fx AQ)(h2: ∀K:AS→Prop,(∀st',Emb E N st' fx→K st')→AWP P E N c st (Gr id (CR K AQ))):
 AWP P E N c st (Gr id (CR (fun st'=>AWP P E N rest st' AQ) AQ)):=h2 _ fun st' he=>AWP.emb he h
def E0 (p:PG)(up:Ky)(n:Nat):PG:=⟨p.leaf,p.keys.take 2,p.kids.take (if p.leaf then 2 else 3),up,n⟩
def Cj (p:PG):PG:=⟨p.leaf,p.keys.drop (if p.leaf then 2 else 3),p.kids.drop (if p.leaf then 2 else 3),p.high,p.next⟩
def I6 (p:PG)(i:Nat)(up:Ky)(kid:Int):PG:=⟨p.leaf,Bn p.keys i up,Bn p.kids (if p.leaf then i else i+1) kid,p.high,p.next⟩
def EV (q:PG):Ky:=q.keys.getD 2 []
def D1 (qs:List PG)(i:Nat)(q:PG):List PG:=qs.set i (E0 q (EV q) qs.length)++[Cj q]
abbrev Wl:=List PG×Option (Ky×Int)
def Du (qs:List PG)(i:Nat)(q:PG):Wl:=if q.keys.length≤4 then (qs.set i q,none) else (D1 qs i q,some (EV q,(qs.length:Int)))
def GB (qs:List PG)(i:Nat)(up:Ky)(kid:Int):Wl:=Du qs i (I6 (pg qs i) (AN (pg qs i) up) up kid)
def DF:List PG→List Nat→Ky→Int→Wl
 |qs,[],up,kid=>(qs,some (up,kid))
 |qs,i::r,up,kid=>match (GB qs i up kid).2 with
  |none=>((GB qs i up kid).1,none)
  |some (u,n)=>DF (GB qs i up kid).1 r u n
def FH (root:Nat)(x:Wl):List PG×Int:=match x.2 with
 |none=>(x.1,root)
 |some (up,kid)=>(x.1++[⟨false,[up],[(root:Int),kid],[],-1⟩],x.1.length)
def C3 (ps:List PG)(k:Ky)(row:Int):Nat→Nat→Wl
 |0,i=>Du ps i (I6 (pg ps i) (AN (pg ps i) k) k row)
 |d+1,i=>match (C3 ps k row d (Bq ps k i)).2 with
  |none=>((C3 ps k row d (Bq ps k i)).1,none)
  |some (up,n)=>Du (C3 ps k row d (Bq ps k i)).1 i (I6 (pg ps i) (AN (pg ps i) k) up n)
theorem HL: ∀(A B:List Nat)(qs:List PG)(up:Ky)(kid:Int),DF qs (A++B) up kid=match (DF qs A up kid).2 with
  |none=>((DF qs A up kid).1,none)
  |some (u,n)=>DF (DF qs A up kid).1 B u n
 | [],B,qs,up,kid=>rfl
 |i::A,B,qs,up,kid=>by
  simp only[List.cons_append,DF]
  cases h:(GB qs i up kid).2 with
  |none=>rfl
  |some x=>exact HL A B _ x.1 x.2
theorem EX {α:Type}{l:List α}{i:Nat}{x y:α}(h:y ∈ Bn l i x):y=x∨y ∈ l:=by
 unfold Bn at h
 rcases List.mem_append.1 h with h |h
 ·exact .inr (List.mem_of_mem_take h)
 ·rcases List.mem_cons.1 h with h |h
  ·exact .inl h
  ·exact .inr (List.mem_of_mem_drop h)
theorem JS {q:PG}(h: ¬q.keys.length≤4):EV q ∈ q.keys:=by
 unfold EV;rw[List.getD_eq_getElem?_getD,List.getElem?_eq_getElem (by omega)];exact List.getElem_mem _
theorem Pq (qs:List PG)(i:Nat)(q:PG):(Du qs i q).1.length=qs.length+(if (Du qs i q).2=none then 0 else 1):=by
 unfold Du;split
 ·simp
 ·simp[D1]
theorem MN {qs:List PG}{i j:Nat}{q p:PG}(hij:i≠j)(h:qs[j]?=some p):(Du qs i q).1[j]?=some p:=by
 have hl:=(List.getElem?_eq_some_iff.1 h).1;unfold Du;split
 ·show(qs.set i q)[j]?=some p
  rw[List.getElem?_set_ne hij];exact h
 ·show(qs.set i _++[_])[j]?=some p
  rw[List.getElem?_append_left (by simpa using hl),List.getElem?_set_ne hij];exact h
theorem SB {p:PG}{n:Nat}(h:PageOK p n)(hl:p.leaf=false)(k up:Ky)(h1:0<AN p k→B4 up (p.keys.getD (AN p k - 1) [])=false)(h2:AN p k<p.keys.length→B4 up (p.keys.getD (AN p k) [])=true):AN p up=AN p k:=by
 have hs:=Bl h;have ha:=Bc p k;have hb:=Bc p up
 rcases Nat.lt_trichotomy (AN p up) (AN p k) with hlt |he |hlt
 ·have h1:=h1 (by omega)
  obtain⟨x,hx⟩: ∃x,p.keys[AN p k - 1]?=some x:=⟨_,List.getElem?_eq_getElem (by omega)⟩;rw[List.getD_eq_getElem?_getD,hx,Option.getD_some] at h1;have:=Dw h hl up (m:=AN p k - 1) (by omega) hx;rw[this] at h1;cases h1
 ·exact he
 ·have h2:=h2 (by omega)
  obtain⟨x,hx⟩: ∃x,p.keys[AN p k]?=some x:=⟨_,List.getElem?_eq_getElem (by omega)⟩;rw[List.getD_eq_getElem?_getD,hx,Option.getD_some] at h2;have:=FS h hl up hlt hx;rw[this] at h2;cases h2
theorem Fu {p:PG}{n:Nat}{low:Ky}(h:PageOK p n)(hf:B5 p low=true){x:Ky}(hx:x ∈ p.keys):B4 x low=false∧(p.high=[]∨B4 x p.high=true):=by
 refine⟨?_,?_⟩
 ·obtain⟨j,hj⟩:=List.mem_iff_getElem?.1 hx
  have hs:=Bl h
  cases hks:p.keys with
  |nil=>rw[hks] at hx;cases hx
  |cons y r=>
   rw[B5,hks] at hf
   have h1:B4 y low=false:=by simpa using hf
   by_cases hj0:j=0
   ·subst hj0;rw[hks] at hj;cases hj;exact h1
   ·have h2:=hs 0 j y x (by omega) (by rw[hks];rfl) hj
    cases h3:B4 x low
    ·rfl
    ·rw[BU h2 h3] at h1;cases h1
 ·by_cases hh:p.high=[]
  ·exact .inl hh
  ·exact .inr (IE h hx hh)
theorem MU {a b c:Ky}(h1:B4 b a=false)(h2:B4 c b=false):B4 c a=false:=by
 cases h:B4 c a
 ·rfl
 ·have:=Cm h h1
  rw[this] at h2;cases h2
theorem EU {ps:List PG}(hp:Bt ps)(k:Ky): ∀(d i:Nat)(low high:Ky),CU ps d i low high→ ∀(j x:Nat),(Ak ps k d i)[j]?=some x→ ∃lo hi,CU ps (d - j) x lo hi
 |0,i,low,high,h,0,x,hx=>by cases hx;exact⟨low,high,h⟩
 |0,i,low,high,h,j+1,x,hx=>by simp[Ak] at hx
 |d+1,i,low,high,h,0,x,hx=>by cases hx;exact⟨low,high,h⟩
 |d+1,i,low,high,h,j+1,x,hx=>by
  rw[Ak,List.getElem?_cons_succ] at hx;have hb:=h.2.2.2 _ _ (KQ hp h.1 k);obtain⟨lo,hi,hg⟩:=EU hp k d (Bq ps k i) _ _ hb j x hx;exact⟨lo,hi,by rw[show d+1 - (j+1)=d - j by omega];exact hg⟩
theorem L7 {ps:List PG}(hp:Bt ps)(k:Ky)(row:Int): ∀(d i:Nat)(low high:Ky),CU ps d i low high→i<ps.length→(∀i x,x ∈ AI ps i→x<ps.length)→B4 k low=false→(high=[]∨B4 k high=true)→
  DF ps (Ak ps k d i).reverse k row=C3 ps k row d i∧(∀(j:Nat)(p:PG),j ∉ Ak ps k d i→ps[j]?=some p→(C3 ps k row d i).1[j]?=some p)∧
   (∀(up:Ky)(n:Int),(C3 ps k row d i).2=some (up,n)→B4 up low=false∧(high=[]∨B4 up high=true))
 |0,i,low,high,hg,hil,hin,h1,h2=>by
  have hok:=HB hp hil;refine⟨?_,fun j p hj hjp=>?_,fun up n he=>?_⟩
  ·simp only[Ak,List.reverse_cons,List.reverse_nil,List.nil_append,DF,C3,GB]
   cases h:(Du ps i (I6 (pg ps i) (AN (pg ps i) k) k row)).2 with
   |none=>exact Prod.ext rfl h.symm
   |some x=>exact Prod.ext rfl h.symm
  ·exact MN (fun e=>hj (by simp[Ak,e])) hjp
  ·simp only[C3,Du] at he
   split at he
   ·cases he
   ·rename_i hlen
    have hm:=JS hlen
    obtain⟨rfl,_⟩:EV _=up∧_:=by simpa using he
    rcases EX hm with e |hm
    ·rw[e];exact⟨h1,h2⟩
    ·have:=Fu hok hg.2.2 hm
     rw[hg.2.1] at this;exact this
 |d+1,i,low,high,hg,hil,hin,h1,h2=>by
  have hkids:=BX hp;obtain⟨g1,g2,g3,g4⟩:=hg;have hq:=Cl hp g1;have ha:=KQ hp g1 k;have hb:=g4 _ _ ha;have hkl:Bq ps k i<ps.length:=hin i _ (List.mem_of_getElem? ha)
  have hlo:B4 k (Eg (pg ps i) (AN (pg ps i) k) low)=false:=by
   unfold Eg;split
   ·exact h1
   ·have hpl:=Bc (pg ps i) k
    have hx:=List.getElem?_eq_getElem (l:=(pg ps i).keys) (i:=AN (pg ps i) k - 1) (by omega);rw[List.getD_eq_getElem?_getD,hx];exact FS hq g1 k (by omega) hx
  have hhi:Db (pg ps i) (AN (pg ps i) k) high=[]∨B4 k (Db (pg ps i) (AN (pg ps i) k) high)=true:=by
   unfold Db;split
   ·rename_i hl
    have hy:=List.getElem?_eq_getElem hl
    right
    rw[List.getD_eq_getElem?_getD,hy];exact Dw hq g1 k (Nat.le_refl _) hy
   ·exact h2
  obtain⟨ih1,ih2,ih3⟩:=L7 hp k row d (Bq ps k i) _ _ hb hkl hin hlo hhi
  have hni:i ∉ Ak ps k d (Bq ps k i):=fun hmem=>by
   obtain⟨j,hj⟩:=List.mem_iff_getElem?.1 hmem;have hpl:=Dx ps k d (Bq ps k i);have hjl:=(List.getElem?_eq_some_iff.1 hj).1;obtain⟨lo',hi',hg'⟩:=EU hp k d (Bq ps k i) _ _ hb j i hj;have:=Bo hkids (d+1) i _ _ _ _ (d - j) ⟨g1,g2,g3,g4⟩ hg';omega
  have hpi:=ih2 i _ hni (DR hil);refine⟨?_,fun j p hj hjp=>?_,fun up n he=>?_⟩
  ·rw[Ak,List.reverse_cons,HL,ih1,C3]
   cases h:(C3 ps k row d (Bq ps k i)).2 with
   |none=>rfl
   |some x=>
    obtain⟨up,n⟩:=x;obtain⟨b1,b2⟩:=ih3 up n h
    have hpl:AN (pg ps i) up=AN (pg ps i) k:=by
     refine SB hq g1 k up (fun h0=>?_) (fun h0=>?_)
     ·unfold Eg at b1
      rw[if_neg (by omega)] at b1;exact b1
     ·unfold Db at b2
      rw[if_pos h0] at b2
      rcases b2 with b2 |b2
      ·rw[List.getD_eq_getElem?_getD,List.getElem?_eq_getElem h0] at b2
       exact absurd b2 (E1 hq (List.getElem_mem h0))
      ·exact b2
    simp only[DF,GB,MP hpi,hpl]
    cases h':(Du (C3 ps k row d (Bq ps k i)).1 i (I6 (pg ps i) (AN (pg ps i) k) up n)).2 with
    |none=>exact Prod.ext rfl h'.symm
    |some x=>exact Prod.ext rfl h'.symm
  ·rw[Ak] at hj
   simp only[List.mem_cons,not_or] at hj;have hjp2:=ih2 j p hj.2 hjp;rw[C3]
   cases h:(C3 ps k row d (Bq ps k i)).2 with
   |none=>exact hjp2
   |some x=>exact MN (Ne.symm hj.1) hjp2
  ·rw[C3] at he
   cases h:(C3 ps k row d (Bq ps k i)).2 with
   |none=>rw[h] at he;cases he
   |some x=>
    obtain⟨u,m⟩:=x;rw[h] at he;obtain⟨b1,b2⟩:=ih3 u m h;simp only[Du] at he;split at he
    ·cases he
    ·rename_i hlen
     have hm:=JS hlen
     obtain⟨rfl,_⟩:EV _=up∧_:=by simpa using he
     rcases EX hm with e |hm
     ·rw[e]
      refine⟨?_,?_⟩
      ·unfold Eg at b1
       split at b1
       ·exact b1
       ·have hpl:=Bc (pg ps i) k
        have hx:=List.getElem?_eq_getElem (l:=(pg ps i).keys) (i:=AN (pg ps i) k - 1) (by omega);rw[List.getD_eq_getElem?_getD,hx] at b1;exact MU (Fu hq g3 (List.getElem_mem (by omega))).1 b1
      ·unfold Db at b2
       split at b2
       ·rename_i h0
        have hx:=List.getElem?_eq_getElem h0;rw[List.getD_eq_getElem?_getD,hx] at b2
        rcases b2 with b2 |b2
        ·exact absurd b2 (E1 hq (List.getElem_mem h0))
        ·rcases(Fu hq g3 (List.getElem_mem h0)).2 with hh |hh
         ·left;rw[←g2];exact hh
         ·right;rw[←g2];exact BU b2 hh
       ·exact b2
     ·have:=Fu hq g3 hm
      rw[g2] at this;exact this
end Go.AM
namespace Go.AM
open Go Go.RowKit
attribute [local irreducible] AWP Aw
theorem Rw {α:Type}{l:List α}{i:Nat}{x:α}(h:l[i]?=some x):l.set i x=l:=by
 obtain⟨hl,rfl⟩:=List.getElem?_eq_some_iff.1 h;exact List.set_getElem_self hl
set_option maxHeartbeats 8000000 in
theorem QT (G:List (Nat×List Value))(qs:List PG)(root:Int)(i:Nat)(p:PG)(up:Ky)(hp:qs[i]?=some p)(h5:p.keys.length=5)(hk5:p.kids.length=if p.leaf then 5 else 6)(hup:p.keys[2]?=some up)(hul:up.length≤1048576)(hn:qs.length≤1048576):
  Con prog G 108 [.p 0 0 0,.r (.int .i64 i)] [(0,.box 33 [.s 1 0 qs.length,.r (.int .i64 root)]),(1,.ul 131 5 (qs.map uP) [])] 2
   (Is (.tup [.ro true 1 (up.map AC),.r (.int .i64 qs.length)]) [(0,.box 33 [.s 3 0 (qs.length+1),.r (.int .i64 root)]),(3,.ul 131 5 ((D1 qs i p).map uP) [])] 4) No:=by
 have hi:i<qs.length:=(List.getElem?_eq_some_iff.1 hp).1;have zi:((i:Int)<(qs.length:Int))=True:=eq_true (by omega)
 have hpu:(qs.map uP)[i]?=some (uP p):=by rw[List.getElem?_map,hp];rfl
 have hmid:EV p=up:=by rw[EV,List.getD_eq_getElem?_getD,hup];rfl
 obtain⟨A1,hA1⟩: ∃x,p.keys.take 2=x:=⟨_,rfl⟩;obtain⟨A2,hA2⟩: ∃x,p.kids.take (if p.leaf then 2 else 3)=x:=⟨_,rfl⟩;obtain⟨B1,hB1⟩: ∃x,p.keys.drop (if p.leaf then 2 else 3)=x:=⟨_,rfl⟩;obtain⟨B2,hB2⟩: ∃x,p.kids.drop (if p.leaf then 2 else 3)=x:=⟨_,rfl⟩
 have hA1l:A1.length=2:=by rw[←hA1,List.length_take,h5];rfl
 have hA2l:A2.length=if p.leaf then 2 else 3:=by rw[←hA2,List.length_take,hk5];cases p.leaf<;>rfl
 have hB1l:B1.length=if p.leaf then 3 else 2:=by rw[←hB1,List.length_drop,h5];cases p.leaf<;>rfl
 have hB2l:B2.length=3:=by rw[←hB2,List.length_drop,hk5];cases p.leaf<;>rfl
 have bc:=D8 G true up hul;have k2:=J5 G false A1 (by omega);have c2:=F7 G false A2 (by rw[hA2l];split<;>omega);have k1:=J5 G false B1 (by rw[hB1l];split<;>omega);have c1:=F7 G false B2 (by omega)
 have hid:(qs.map uP).set i (uP p)=qs.map uP:=by rw[←List.map_set,Rw hp]
 have e5:(uP p).length=5:=rfl
 have hs5: ∀e,((qs.map uP).set i e)[i]?=some e:=fun e=>by rw[List.getElem?_set_self (by simpa using hi)]
 refine AA func108 rfl (by kernel_rfl) (of_decide_eq_true (by kernel_rfl)) ?_;intro E hG hE;subst hG;simp only[B9];(refine AWP.emb (Fg (T:=?z1T) (k:=?z1k) (els:=?z1e) (T':=?z1T1) (k':=?z1k1) (els':=?z1e1) (op:=?z1op) (e:=?z1ee) 1 i 1 ?z1h ?z1he ?z1hj ?z1ho) ?z1g;(case z1h=>rfl);(case z1he=>exact hpu);(case z1hj=>rfl);(case z1ho=>simp[CN]);simp only[List.length_map]);(refine AWP.emb (Fg (T:=?z2T) (k:=?z2k) (els:=?z2e) (T':=?z2T1) (k':=?z2k1) (els':=?z2e1) (op:=?z2op) (e:=?z2ee) 1 i 2 ?z2h ?z2he ?z2hj ?z2ho) ?z2g;(case z2h=>rfl);(case z2he=>exact hpu);(case z2hj=>rfl);(case z2ho=>simp[CN]);simp only[List.length_map]);have dz1:Cv true (p.keys.map Aj)=p.keys.map Aj:=CT true Aj Aj (fun _=>rfl) _;have dz2:Cv true (p.kids.map eI)=p.kids.map eI:=CT true eI eI (fun _=>rfl) _;(refine AWP.emb (EG (T:=?z3T) (k:=?z3k) (els:=?z3e) 2 ?z3h) ?z3g;(case z3h=>rfl);simp only[Ad,dz1]);(refine AWP.emb (EG (T:=?z4T) (k:=?z4k) (els:=?z4e) 3 ?z4h) ?z4g;(case z4h=>rfl);simp only[Ad,dz2,Nat.reduceAdd]);refine A0 ?_;(refine rR (fun K kp hK hkp=>?_);simp(implicitDefEqProofs:=false) (maxSteps:=2000000) (disch:=omega) only[go_sem];(repeat' (refine hK _ ?_;clear hK hkp kp K)));refine A0 ?_;(refine rR (fun K kp hK hkp=>?_);simp(implicitDefEqProofs:=false) (maxSteps:=2000000) (disch:=omega) only[go_sem,zi,hp,uP];(repeat' (refine hK _ ?_;clear hK hkp kp K)));refine A0 ?_;(refine rR (fun K kp hK hkp=>?_);simp(implicitDefEqProofs:=false) (maxSteps:=2000000) (disch:=omega) only[go_sem];(repeat' (refine hK _ ?_;clear hK hkp kp K)));refine A0 ?_;(refine rR (fun K kp hK hkp=>?_);simp(implicitDefEqProofs:=false) (maxSteps:=2000000) (disch:=omega) only[go_sem,hup,h5,Aj];(repeat' (refine hK _ ?_;clear hK hkp kp K)))
 refine Hm (fx:=⟨[(8,.ro true 1 (up.map AC)),(7,.p 3 0 0),(6,.p 2 0 0),(1,.r (.int .i64 i)),(0,.p 0 0 0)],[(0,.box 33 [.s 1 0 qs.length,.r (.int .i64 root)]),(1,.ul 131 5 (qs.map uP) []),(2,.box 131 [.r (.bool p.leaf),.s 4 0 A1.length,.s 5 0 A2.length,.ro true 1 (p.high.map AC),.r (.int .i64 p.next)]),(3,.box 131 [.r (.bool p.leaf),.s 6 0 B1.length,.s 7 0 B2.length,.ro true 1 (p.high.map AC),.r (.int .i64 p.next)]),
  (4,.lst 81 1 (A1.map Aj)),(5,.lst 3 1 (A2.map eI)),(6,.lst 81 1 (B1.map Aj)),(7,.lst 3 1 (B2.map eI))],8⟩) ?_ fun K hcut=>?_
 rotate_left
 ·have t1:((p.keys.map Aj).take 5)=p.keys.map Aj:=List.take_of_length_le (by simp[h5])
  have d4:(p.keys.map Aj).take 2=A1.map Aj:=by rw[←List.map_take,hA1]
  cases hlf:p.leaf
  ·simp only[hlf,Bool.false_eq_true,↓reduceIte] at hk5 hA2 hB1 hB2 hA2l hB1l hcut ⊢
   have t2:((p.kids.map eI).take 6)=p.kids.map eI:=List.take_of_length_le (by simp[hk5])
   have d1:((p.keys.map Aj).drop 3).take 2=B1.map Aj:=by rw[←List.map_drop,hB1,List.take_of_length_le (by simp[hB1l])]
   have d2:((p.kids.map eI).drop 3).take 3=B2.map eI:=by rw[←List.map_drop,hB2,List.take_of_length_le (by simp[hB2l])]
   have d3:(p.kids.map eI).take 3=A2.map eI:=by rw[←List.map_take,hA2]
   rw[hB1l] at k1;rw[hB2l] at c1;rw[hA1l] at k2;rw[hA2l] at c2;rw[hk5];refine AWP.emb (st':=⟨[(8,.ro true 1 (up.map AC)),(7,.p 5 0 0),(6,.p 4 0 0),(1,.r (.int .i64 i)),(0,.p 0 0 0)],[(0,.box 33 [.s 1 0 qs.length,.r (.int .i64 root)]),(1,.ul 131 5 (qs.map uP) [(i,2,.s 3 0 6),(i,1,.s 2 0 5)]),(2,.lst 81 1 (p.keys.map Aj)),(3,.lst 3 1 (p.kids.map eI)),(4,.box 131 [.r (.bool false),.s 2 0 5,.s 3 0 6,.ro true 1 (p.high.map AC),.r (.int .i64 p.next)]),(5,.box 131 [.r (.bool false),.r (.slice none 0 0),.r (.slice none 0 0),.ro true 1 (p.high.map AC),.r (.int .i64 p.next)])],6⟩) ?_ ?_
   ·(refine AE hE [0,1,2,3,4,5] rfl ?_ ?_<;>simp[AU,AO,lk,ren,renL,A9,AL,AK]<;>(try omega))
   refine A0 ?_;(repeat' (first |refine A0 ?_ |((first |refine rR (fun K kp hK hkp=>?_) |refine rD (id:=7) mixed 9 [0,1,2,4,5,6,3,8,7] (fun K kp hK hkp=>?_) |refine cD k1 ?_ |refine cD c1 ?_ |refine cR k2 ?_ |refine cR c2 ?_);simp(implicitDefEqProofs:=false) (maxSteps:=2000000) (disch:=omega) only[go_sem,d1,d2,d3,d4,ne_eq,reduceCtorEq,not_false_eq_true];(repeat' (refine hK _ ?_;clear hK hkp kp K))) |refine A4 rfl ?_));refine hcut _ ?_;refine Emb.trans (BY 2 rfl) ?_;refine Emb.trans (BY 3 rfl) ?_;simp only[Ad];(refine Emb.trans (Ay (T:=?z5T) (k:=?z5k) (els:=?z5e) (T':=?z5T1) (k':=?z5k1) (els':=?z5e1) (op:=?z5op) (e:=?z5ee) (m:=?z5m) (lo:=?z5lo) (len:=?z5len) 1 i 1 ?z5h ?z5ho ?z5hm ?z5hn ?z5hl ?z5he ?z5hj) ?z5g;(case z5h=>rfl);(case z5he=>exact hpu);(case z5ho=>(simp only[CN,and_self,if_true,↓reduceIte,List.length_map,h5,e5,t1,true_and,Nat.reduceLeDiff,Nat.reduceAdd,Nat.lt_irrefl,and_false];rfl));(case z5hm=>rfl);(case z5hn=>simp);(case z5hl=>simp[List.length_map,h5,e5,t1,true_and,Nat.reduceLeDiff,Nat.reduceAdd,Nat.lt_irrefl,and_false]);(case z5hj=>simp[List.length_map,h5,e5,t1,true_and,Nat.reduceLeDiff,Nat.reduceAdd,Nat.lt_irrefl,and_false]);simp only[rm,Gu,and_self,Nat.le_refl,Nat.zero_add,Nat.lt_add_one,Nat.reduceLT,Nat.reduceEqDiff,↓reduceIte,if_true,List.drop_zero,List.set_cons_zero,List.set_cons_succ,List.length_map,h5,e5,t1,true_and,Nat.reduceLeDiff,Nat.reduceAdd,Nat.lt_irrefl,and_false]);(refine Emb.trans (Ay (T:=?z6T) (k:=?z6k) (els:=?z6e) (T':=?z6T1) (k':=?z6k1) (els':=?z6e1) (op:=?z6op) (e:=?z6ee) (m:=?z6m) (lo:=?z6lo) (len:=?z6len) 1 i 2 ?z6h ?z6ho ?z6hm ?z6hn ?z6hl ?z6he ?z6hj) ?z6g;(case z6h=>rfl);(case z6he=>exact hs5 _);(case z6ho=>(simp only[CN,and_self,if_true,↓reduceIte,List.length_map,hk5,e5,t2,List.length_set,List.set_set,true_and,Nat.reduceLeDiff,Nat.reduceAdd,Nat.lt_irrefl,and_false];rfl));(case z6hm=>rfl);(case z6hn=>simp);(case z6hl=>simp[List.length_map,hk5,e5,t2,List.length_set,List.set_set,true_and,Nat.reduceLeDiff,Nat.reduceAdd,Nat.lt_irrefl,and_false]);(case z6hj=>simp[List.length_map,hk5,e5,t2,List.length_set,List.set_set,true_and,Nat.reduceLeDiff,Nat.reduceAdd,Nat.lt_irrefl,and_false]);simp only[rm,Gu,and_self,Nat.le_refl,Nat.zero_add,Nat.lt_add_one,Nat.reduceLT,Nat.reduceEqDiff,↓reduceIte,if_true,List.drop_zero,List.set_cons_zero,List.set_cons_succ,List.length_map,hk5,e5,t2,List.length_set,List.set_set,true_and,Nat.reduceLeDiff,Nat.reduceAdd,Nat.lt_irrefl,and_false]);change Emb _ _ ⟨_,(1,.ul _ _ (List.set _ _ (uP p)) _)::_,_⟩ _;rw[hid];(refine AE hE [0,1,4,5,9,8,6,7] rfl ?_ ?_<;>simp[AU,AO,lk,ren,renL,A9,AL,AK,hA1l,hA2l,hB1l,hB2l]<;>(try omega))
  ·simp only[hlf,↓reduceIte] at hk5 hA2 hB1 hB2 hA2l hB1l hcut ⊢
   have t2:((p.kids.map eI).take 5)=p.kids.map eI:=List.take_of_length_le (by simp[hk5])
   have d1:((p.keys.map Aj).drop 2).take 3=B1.map Aj:=by rw[←List.map_drop,hB1,List.take_of_length_le (by simp[hB1l])]
   have d2:((p.kids.map eI).drop 2).take 3=B2.map eI:=by rw[←List.map_drop,hB2,List.take_of_length_le (by simp[hB2l])]
   have d3:(p.kids.map eI).take 2=A2.map eI:=by rw[←List.map_take,hA2]
   rw[hB1l] at k1;rw[hB2l] at c1;rw[hA1l] at k2;rw[hA2l] at c2;rw[hk5];refine AWP.emb (st':=⟨[(8,.ro true 1 (up.map AC)),(7,.p 5 0 0),(6,.p 4 0 0),(1,.r (.int .i64 i)),(0,.p 0 0 0)],[(0,.box 33 [.s 1 0 qs.length,.r (.int .i64 root)]),(1,.ul 131 5 (qs.map uP) [(i,2,.s 3 0 5),(i,1,.s 2 0 5)]),(2,.lst 81 1 (p.keys.map Aj)),(3,.lst 3 1 (p.kids.map eI)),(4,.box 131 [.r (.bool true),.s 2 0 5,.s 3 0 5,.ro true 1 (p.high.map AC),.r (.int .i64 p.next)]),(5,.box 131 [.r (.bool true),.r (.slice none 0 0),.r (.slice none 0 0),.ro true 1 (p.high.map AC),.r (.int .i64 p.next)])],6⟩) ?_ ?_
   ·(refine AE hE [0,1,2,3,4,5] rfl ?_ ?_<;>simp[AU,AO,lk,ren,renL,A9,AL,AK]<;>(try omega))
   refine A0 ?_;(repeat' (first |refine A0 ?_ |((first |refine rR (fun K kp hK hkp=>?_) |refine rD (id:=5) mixed 9 [0,1,2,4,5,6,3,8,7] (fun K kp hK hkp=>?_) |refine cD k1 ?_ |refine cD c1 ?_ |refine cR k2 ?_ |refine cR c2 ?_);simp(implicitDefEqProofs:=false) (maxSteps:=2000000) (disch:=omega) only[go_sem,d1,d2,d3,d4,ne_eq,reduceCtorEq,not_false_eq_true];(repeat' (refine hK _ ?_;clear hK hkp kp K))) |refine A3 rfl ?_));refine hcut _ ?_;refine Emb.trans (BY 2 rfl) ?_;refine Emb.trans (BY 3 rfl) ?_;simp only[Ad];(refine Emb.trans (Ay (T:=?z7T) (k:=?z7k) (els:=?z7e) (T':=?z7T1) (k':=?z7k1) (els':=?z7e1) (op:=?z7op) (e:=?z7ee) (m:=?z7m) (lo:=?z7lo) (len:=?z7len) 1 i 1 ?z7h ?z7ho ?z7hm ?z7hn ?z7hl ?z7he ?z7hj) ?z7g;(case z7h=>rfl);(case z7he=>exact hpu);(case z7ho=>(simp only[CN,and_self,if_true,↓reduceIte,List.length_map,h5,e5,t1,true_and,Nat.reduceLeDiff,Nat.reduceAdd,Nat.lt_irrefl,and_false];rfl));(case z7hm=>rfl);(case z7hn=>simp);(case z7hl=>simp[List.length_map,h5,e5,t1,true_and,Nat.reduceLeDiff,Nat.reduceAdd,Nat.lt_irrefl,and_false]);(case z7hj=>simp[List.length_map,h5,e5,t1,true_and,Nat.reduceLeDiff,Nat.reduceAdd,Nat.lt_irrefl,and_false]);simp only[rm,Gu,and_self,Nat.le_refl,Nat.zero_add,Nat.lt_add_one,Nat.reduceLT,Nat.reduceEqDiff,↓reduceIte,if_true,List.drop_zero,List.set_cons_zero,List.set_cons_succ,List.length_map,h5,e5,t1,true_and,Nat.reduceLeDiff,Nat.reduceAdd,Nat.lt_irrefl,and_false]);(refine Emb.trans (Ay (T:=?z8T) (k:=?z8k) (els:=?z8e) (T':=?z8T1) (k':=?z8k1) (els':=?z8e1) (op:=?z8op) (e:=?z8ee) (m:=?z8m) (lo:=?z8lo) (len:=?z8len) 1 i 2 ?z8h ?z8ho ?z8hm ?z8hn ?z8hl ?z8he ?z8hj) ?z8g;(case z8h=>rfl);(case z8he=>exact hs5 _);(case z8ho=>(simp only[CN,and_self,if_true,↓reduceIte,List.length_map,hk5,e5,t2,List.length_set,List.set_set,true_and,Nat.reduceLeDiff,Nat.reduceAdd,Nat.lt_irrefl,and_false];rfl));(case z8hm=>rfl);(case z8hn=>simp);(case z8hl=>simp[List.length_map,hk5,e5,t2,List.length_set,List.set_set,true_and,Nat.reduceLeDiff,Nat.reduceAdd,Nat.lt_irrefl,and_false]);(case z8hj=>simp[List.length_map,hk5,e5,t2,List.length_set,List.set_set,true_and,Nat.reduceLeDiff,Nat.reduceAdd,Nat.lt_irrefl,and_false]);simp only[rm,Gu,and_self,Nat.le_refl,Nat.zero_add,Nat.lt_add_one,Nat.reduceLT,Nat.reduceEqDiff,↓reduceIte,if_true,List.drop_zero,List.set_cons_zero,List.set_cons_succ,List.length_map,hk5,e5,t2,List.length_set,List.set_set,true_and,Nat.reduceLeDiff,Nat.reduceAdd,Nat.lt_irrefl,and_false]);change Emb _ _ ⟨_,(1,.ul _ _ (List.set _ _ (uP p)) _)::_,_⟩ _;rw[hid];(refine AE hE [0,1,4,5,9,8,6,7] rfl ?_ ?_<;>simp[AU,AO,lk,ren,renL,A9,AL,AK,hA1l,hA2l,hB1l,hB2l]<;>(try omega))
 ·clear k1 c1 k2 c2 hid e5 dz1 dz2 h5 hk5 hup
  refine A0 ?_;refine rX (id:=10) mixed [2] 11 [0,2,3,4,5,6,1,7,8,9,10] (fun K kp hK hkp=>?_);simp(implicitDefEqProofs:=false) (maxSteps:=2000000) (disch:=omega) only[go_sem,ne_eq,reduceCtorEq,not_false_eq_true]
  (((apply UO (bc));(case hb=>(simp(implicitDefEqProofs:=false) (maxSteps:=2000000) (disch:=omega) only[go_sem,ne_eq,reduceCtorEq,not_false_eq_true];first |done |rfl));(case hp=>(simp[-List.map_drop,-List.map_take,ne_eq,reduceCtorEq,not_false_eq_true];done));(case hq=>(simp[-List.map_drop,-List.map_take];done)));simp(implicitDefEqProofs:=false) (maxSteps:=2000000) (disch:=omega) only[go_sem,ne_eq,reduceCtorEq,not_false_eq_true];(repeat' (refine hK _ ?_;clear hK hkp kp K)))
  refine AWP.emb (st':=⟨[(8,.ro true 1 (up.map AC)),(7,.p 3 0 0),(6,.p 2 0 0),(1,.r (.int .i64 i)),(0,.p 0 0 0)],[(0,.box 33 [.s 1 0 qs.length,.r (.int .i64 root)]),(1,.ul 131 5 (qs.map uP) []),(2,.box 131 [.r (.bool p.leaf),.s 4 0 A1.length,.s 5 0 A2.length,.ro true 1 (up.map AC),.r (.int .i64 qs.length)]),(3,.box 131 [.r (.bool p.leaf),.s 6 0 B1.length,.s 7 0 B2.length,.ro true 1 (p.high.map AC),.r (.int .i64 p.next)]),
   (4,.ul 81 1 (A1.map Aj) []),(5,.ul 3 1 (A2.map eI) []),(6,.ul 81 1 (B1.map Aj) []),(7,.ul 3 1 (B2.map eI) [])],8⟩) ?_ ?_
  ·refine Emb.trans (BY 4 rfl) ?_
   refine Emb.trans (BY 5 rfl) ?_;refine Emb.trans (BY 6 rfl) ?_;refine Emb.trans (BY 7 rfl) ?_;simp only[Ad];(refine AE hE [0,1,2,3,4,5,6,7] rfl ?_ ?_<;>simp[AU,AO,lk,ren,renL,A9,AL,AK]<;>(try omega))
  have t1:(A1.map Aj).take A1.length=A1.map Aj:=List.take_of_length_le (by simp);have t2:(A2.map eI).take A2.length=A2.map eI:=List.take_of_length_le (by simp);have t3:(B1.map Aj).take B1.length=B1.map Aj:=List.take_of_length_le (by simp);have t4:(B2.map eI).take B2.length=B2.map eI:=List.take_of_length_le (by simp);refine A0 ?_;(refine rD (id:=11) mixed 7 [0,1,2,3,4,5,6] (fun K kp hK hkp=>?_);simp(implicitDefEqProofs:=false) (maxSteps:=2000000) (disch:=omega) only[go_sem,zi,hp,uP,ne_eq,reduceCtorEq,not_false_eq_true,Option.some.injEq,Nat.reduceEqDiff];(repeat' (refine hK _ ?_;clear hK hkp kp K)));(refine AWP.emb (Ay (T:=?z9T) (k:=?z9k) (els:=?z9e) (T':=?z9T1) (k':=?z9k1) (els':=?z9e1) (op:=?z9op) (e:=?z9ee) (m:=?z9m) (lo:=?z9lo) (len:=?z9len) 1 i 1 ?z9h ?z9ho ?z9hm ?z9hn ?z9hl ?z9he ?z9hj) ?z9g;(case z9h=>rfl);(case z9he=>exact hs5 _);(case z9ho=>(simp only[CN,and_self,if_true,↓reduceIte,List.length_map,t1,List.set_set,List.length_cons,List.length_nil,true_and,Nat.reduceLeDiff,Nat.reduceAdd,Nat.lt_irrefl,and_false];rfl));(case z9hm=>rfl);(case z9hn=>simp);(case z9hl=>simp[List.length_map,t1,List.set_set,List.length_cons,List.length_nil,true_and,Nat.reduceLeDiff,Nat.reduceAdd,Nat.lt_irrefl,and_false]);(case z9hj=>simp[List.length_map,t1,List.set_set,List.length_cons,List.length_nil,true_and,Nat.reduceLeDiff,Nat.reduceAdd,Nat.lt_irrefl,and_false]);simp only[rm,Gu,and_self,Nat.le_refl,Nat.zero_add,Nat.lt_add_one,Nat.reduceLT,Nat.reduceEqDiff,↓reduceIte,if_true,List.drop_zero,List.set_cons_zero,List.set_cons_succ,List.length_map,t1,List.set_set,List.length_cons,List.length_nil,true_and,Nat.reduceLeDiff,Nat.reduceAdd,Nat.lt_irrefl,and_false]);(refine AWP.emb (Ay (T:=?z10T) (k:=?z10k) (els:=?z10e) (T':=?z10T1) (k':=?z10k1) (els':=?z10e1) (op:=?z10op) (e:=?z10ee) (m:=?z10m) (lo:=?z10lo) (len:=?z10len) 1 i 2 ?z10h ?z10ho ?z10hm ?z10hn ?z10hl ?z10he ?z10hj) ?z10g;(case z10h=>rfl);(case z10he=>exact hs5 _);(case z10ho=>(simp only[CN,and_self,if_true,↓reduceIte,List.length_map,t2,List.set_set,List.length_cons,List.length_nil,true_and,Nat.reduceLeDiff,Nat.reduceAdd,Nat.lt_irrefl,and_false];rfl));(case z10hm=>rfl);(case z10hn=>simp);(case z10hl=>simp[List.length_map,t2,List.set_set,List.length_cons,List.length_nil,true_and,Nat.reduceLeDiff,Nat.reduceAdd,Nat.lt_irrefl,and_false]);(case z10hj=>simp[List.length_map,t2,List.set_set,List.length_cons,List.length_nil,true_and,Nat.reduceLeDiff,Nat.reduceAdd,Nat.lt_irrefl,and_false]);simp only[rm,Gu,and_self,Nat.le_refl,Nat.zero_add,Nat.lt_add_one,Nat.reduceLT,Nat.reduceEqDiff,↓reduceIte,if_true,List.drop_zero,List.set_cons_zero,List.set_cons_succ,List.length_map,t2,List.set_set,List.length_cons,List.length_nil,true_and,Nat.reduceLeDiff,Nat.reduceAdd,Nat.lt_irrefl,and_false])
  have hleft:(qs.map uP).set i (uP (E0 p (EV p) qs.length))=(qs.set i (E0 p (EV p) qs.length)).map uP:=by rw[List.map_set]
  have eL:uP (E0 p (EV p) qs.length)=[.r (.bool p.leaf),.u 81 1 (A1.map Aj),.u 3 1 (A2.map eI),.ro true 1 (up.map AC),.r (.int .i64 qs.length)]:=by simp only[uP,E0,hmid,hA1,hA2]
  have eR:uP (Cj p)=[.r (.bool p.leaf),.u 81 1 (B1.map Aj),.u 3 1 (B2.map eI),.ro true 1 (p.high.map AC),.r (.int .i64 p.next)]:=by simp only[uP,Cj,hB1,hB2]
  rw[←eL,hleft]
  have hll:((qs.set i (E0 p (EV p) qs.length)).map uP).length=qs.length:=by simp
  have hl0:(qs.set i (E0 p (EV p) qs.length)).length=qs.length:=by simp
  have hS:D1 qs i p=qs.set i (E0 p (EV p) qs.length)++[Cj p]:=rfl;rw[hS];clear eL hleft t1 t2 hs5;generalize qs.set i (E0 p (EV p) qs.length)=us at *;refine A0 ?_;(refine rF (id:=12) mixed 7 [0] [1,2,3,4,5,6] (fun K kp hK hkp=>?_);simp(implicitDefEqProofs:=false) (maxSteps:=2000000) (disch:=omega) only[go_sem,hl0,ne_eq,reduceCtorEq,not_false_eq_true,Option.some.injEq,Nat.reduceEqDiff];(repeat' (first |(refine hK _ ?_;clear hK hkp kp K) |(with_reducible refine And.intro ?_ ?_) |omega)));(refine AWP.emb (Ay (T:=?z11T) (k:=?z11k) (els:=?z11e) (T':=?z11T1) (k':=?z11k1) (els':=?z11e1) (op:=?z11op) (e:=?z11ee) (m:=?z11m) (lo:=?z11lo) (len:=?z11len) 9 qs.length 1 ?z11h ?z11ho ?z11hm ?z11hn ?z11hl ?z11he ?z11hj) ?z11g;(case z11h=>rfl);(case z11he=>exact IY _ hll);(case z11ho=>(simp only[CN,and_self,if_true,↓reduceIte,List.length_map,t3,B3 _ _ hll,List.length_cons,List.length_nil,true_and,Nat.reduceLeDiff,Nat.reduceAdd,Nat.lt_irrefl,and_false];rfl));(case z11hm=>rfl);(case z11hn=>simp);(case z11hl=>simp[List.length_map,t3,B3 _ _ hll,List.length_cons,List.length_nil,true_and,Nat.reduceLeDiff,Nat.reduceAdd,Nat.lt_irrefl,and_false]);(case z11hj=>simp[List.length_map,t3,B3 _ _ hll,List.length_cons,List.length_nil,true_and,Nat.reduceLeDiff,Nat.reduceAdd,Nat.lt_irrefl,and_false]);simp only[rm,Gu,and_self,Nat.le_refl,Nat.zero_add,Nat.lt_add_one,Nat.reduceLT,Nat.reduceEqDiff,↓reduceIte,if_true,List.drop_zero,List.set_cons_zero,List.set_cons_succ,List.length_map,t3,B3 _ _ hll,List.length_cons,List.length_nil,true_and,Nat.reduceLeDiff,Nat.reduceAdd,Nat.lt_irrefl,and_false]);(refine AWP.emb (Ay (T:=?z12T) (k:=?z12k) (els:=?z12e) (T':=?z12T1) (k':=?z12k1) (els':=?z12e1) (op:=?z12op) (e:=?z12ee) (m:=?z12m) (lo:=?z12lo) (len:=?z12len) 9 qs.length 2 ?z12h ?z12ho ?z12hm ?z12hn ?z12hl ?z12he ?z12hj) ?z12g;(case z12h=>rfl);(case z12he=>exact IY _ hll);(case z12ho=>(simp only[CN,and_self,if_true,↓reduceIte,List.length_map,t4,B3 _ _ hll,List.length_cons,List.length_nil,true_and,Nat.reduceLeDiff,Nat.reduceAdd,Nat.lt_irrefl,and_false];rfl));(case z12hm=>rfl);(case z12hn=>simp);(case z12hl=>simp[List.length_map,t4,B3 _ _ hll,List.length_cons,List.length_nil,true_and,Nat.reduceLeDiff,Nat.reduceAdd,Nat.lt_irrefl,and_false]);(case z12hj=>simp[List.length_map,t4,B3 _ _ hll,List.length_cons,List.length_nil,true_and,Nat.reduceLeDiff,Nat.reduceAdd,Nat.lt_irrefl,and_false]);simp only[rm,Gu,and_self,Nat.le_refl,Nat.zero_add,Nat.lt_add_one,Nat.reduceLT,Nat.reduceEqDiff,↓reduceIte,if_true,List.drop_zero,List.set_cons_zero,List.set_cons_succ,List.length_map,t4,B3 _ _ hll,List.length_cons,List.length_nil,true_and,Nat.reduceLeDiff,Nat.reduceAdd,Nat.lt_irrefl,and_false]);rw[←eR]
  have hs3:us.map uP++[uP (Cj p)]=(us++[Cj p]).map uP:=by rw[List.map_append];rfl
  rw[hs3]
  have e1:((qs.length+1:Nat):Int) - 1=(qs.length:Int):=by omega
  (repeat' (first |refine A0 ?_ |((first |refine rD (id:=13) mixed 10 [0,2,3,4,5,6,7,1,8,9] (fun K kp hK hkp=>?_) |refine cD bc ?_);simp(implicitDefEqProofs:=false) (maxSteps:=2000000) (disch:=omega) only[go_sem,e1];(repeat' (refine hK _ ?_;clear hK hkp kp K))) |refine A8 ?_));(refine A7 (by(simp(implicitDefEqProofs:=false) (maxSteps:=2000000) (disch:=omega) only[go_sem,results108,AK]);rfl) ?_;refine(Q9 [0,1,1,9] ?_ ?_ ?_ ?_ ?_ ?_).s<;>simp[JI,AG,AO,lk,ren,renL,A9,AL,hE,AK]<;>(try (intro i hi;first |(rcases i with _ |_ |i;rfl;rfl;(exfalso;omega)) |(rcases i with _ |_ |_ |i;rfl;rfl;rfl;(exfalso;omega)) |(rcases i with _ |_ |_ |_ |i;rfl;rfl;rfl;rfl;(exfalso;omega)) |(rcases i with _ |_ |_ |_ |_ |i;rfl;rfl;rfl;rfl;rfl;(exfalso;omega)) |(rcases i with _ |_ |_ |_ |_ |_ |i;rfl;rfl;rfl;rfl;rfl;rfl;(exfalso;omega)))))
end Go.AM
namespace Go.AM
open Go Go.RowKit
attribute [local irreducible] AWP Aw
noncomputable def LL (ps:List PG)(k:Ky)(row:Int)(r d:Nat):List PG×Int×Int:=
 if Bu (pg ps (BH ps k d r)) k=true then ([],0,9) else if 4000<(FH r (DF ps (Ak ps k d r).reverse k row)).1.length then ([],0,10) else ((FH r (DF ps (Ak ps k d r).reverse k row)).1,(FH r (DF ps (Ak ps k d r).reverse k row)).2,0)
structure UpOK (ps:List PG)(r d:Nat)(way:List Nat)(R:List PG×Int)(m:Nat)(qs:List PG)(up:Ky)(kid:Int):Prop where
 hm:m≤d+1
 res:FH r (DF qs (way.take m).reverse up kid)=R
 same: ∀(j x:Nat),j<m→way[j]?=some x→qs[x]?=some (pg ps x)
 len:qs.length+m≤ps.length+d+1
 upl:up.length≤1048576
set_option maxHeartbeats 8000000 in
theorem U4 (G:List (Nat×List Value))(t:Bool)(ps:List PG)(r d:Nat)(k:Ky)(row:Int)(ho:BG ps)(h:Trd ps r d)(hk:k.length≤1048576)(h0:CG ps r k=0)(hrow:0≤row)(ht:Bu (pg ps (BH ps k d r)) k=false)(R:List PG×Int)(hR:FH r (DF ps (Ak ps k d r).reverse k row)=R):
  Con prog G 47 [.agg [.ro true 5 (ps.map eP),.r (.int .i64 r)],.ro t 1 (k.map AC),.r (.int .i64 row)] [] 0 (Is (if 4000<R.1.length then .tup [.agg [.r (.slice none 0 0),.r (.int .i64 0)],.r (.int .i64 10)] else Gn (R.1,R.2,0)) [] 0) No:=by
 have cc:=F8 G t ps r k ho;rw[h0] at cc;have fc:=Fz G true t ps r d k h.ok h.kin h.good h.rl h.n h.dl;rw[ht] at fc;have oc:=SD G true ps r ho;have pc:=Ql G false false t ps r d k h.ok h.kin h.good h.rl h.n h.dl;have bc:=D8 G t k hk;have zr:(row<0)=False:=eq_false (by omega);have hpl:=Dx ps k d r;generalize hway:Ak ps k d r=way at *
 have e1:((d+1:Nat):Int) - 1=(d:Int):=by omega
 have hd4:d≤4000:=by have:=h.dl;have:=h.n;omega
 refine AA func47 rfl (by kernel_rfl) (of_decide_eq_true (by kernel_rfl)) ?_;intro E hG hE;subst hG;simp only[B9];(repeat' (first |refine A0 ?_ |refine A5 ?_ |refine A6 ?_ |((first |refine rR (fun K kp hK hkp=>?_) |refine cR cc ?_ |refine cR fc ?_ |refine cR oc ?_ |refine cR pc ?_ |refine cR bc ?_);simp(implicitDefEqProofs:=false) (maxSteps:=2000000) (disch:=omega) only[go_sem,bne_self_eq_false,zr,hpl,e1];(repeat' (refine hK _ ?_;clear hK hkp kp K))) |refine A4 rfl ?_));refine Hn (fx:=⟨[(12,.p 1 0 0),(7,.r (.int .i64 0)),(6,.p 0 0 0)],[(0,.box 33 [.r (.slice none 0 0),.r (.int .i64 0)]),(1,.box 33 [.s 2 0 R.1.length,.r (.int .i64 R.2)]),(2,.lst 131 5 (R.1.map eP))],3⟩) ?_ fun K hcut=>?_;rotate_left
 ·clear cc fc oc pc bc
  refine AH (fun(i:Nat×List PG×Ky×Int)=>⟨[(16,.r (.int .i64 ((i.1:Int) - 1))),(15,.r (.int .i64 i.2.2.2)),(14,.ro true 1 (i.2.2.1.map AC)),(13,.ro true 1 (way.map Cd)),(12,.p 1 0 0),(7,.r (.int .i64 0)),(6,.p 0 0 0)],[(0,.box 33 [.r (.slice none 0 0),.r (.int .i64 0)]),(1,.box 33 [.s 2 0 i.2.1.length,.r (.int .i64 r)]),(2,.ul 131 5 (i.2.1.map uP) [])],3⟩)
   (fun i=>UpOK ps r d way R i.1 i.2.1 i.2.2.1 i.2.2.2) (fun i=>i.1) (d+1,ps,k,row) ?_ ?_ ?_
  ·refine⟨Nat.le_refl _,by rw[List.take_of_length_le (by omega)];exact hR,fun j x hj hx=>?_,by simp only;omega,hk⟩
   subst hway;obtain⟨_,_,_,b4⟩:=D2 h.ok k d r [] [] h.good (.inl rfl) j x hx;refine DR ?_
   rcases b4 with e |⟨y,hy⟩
   ·rw[e];exact h.rl
   ·exact h.kin y _ hy
  ·(refine AE hE [1,3,2] rfl ?_ ?_<;>simp[AU,AO,lk,ren,renL,A9,AL,AK]<;>(try omega))
  rintro⟨m,qs,up,kid⟩ ⟨hm,hres,hsame,hlen,hupl⟩;simp only at hm hres hsame hlen hupl;have hps:=h.n;have hdl:=h.dl
  cases m with
  |zero=>
   have z0:((((0:Nat):Int) - 1)<0)=True:=eq_true (by omega)
   have e3:((qs.length+1:Nat):Int) - 1=(qs.length:Int):=by omega
   have hqs:qs.length≤9000:=by omega
   rw[List.take_zero] at hres
   have hR1:R.1=qs++[⟨false,[up],[(r:Int),kid],[],-1⟩]:=by rw[←hres];rfl
   have hR2:R.2=(qs.length:Int):=by rw[←hres];rfl
   rw[hR1,hR2] at hcut;(refine AWP.emb (EG (T:=?z1T) (k:=?z1k) (els:=?z1e) 2 ?z1h) ?z1g;(case z1h=>rfl);simp only[Ad,Jb]);rw[←Vr];(repeat' (first |refine A0 ?_ |refine A5 ?_ |refine AB ?_ |((refine rR (fun K kp hK hkp=>?_));simp(implicitDefEqProofs:=false) (maxSteps:=2000000) (disch:=omega) only[go_sem,z0,e3];(repeat' (first |(refine hK _ ?_;clear hK hkp kp K) |(with_reducible refine And.intro ?_ ?_) |omega))) |refine A3 rfl ?_));refine hcut _ ?_;refine Emb.trans (Ml (els':=(qs++[(⟨false,[up],[(r:Int),kid],[],-1⟩:PG)]).map eP) 6 rfl (by simp) (fun i e e' h1 h2=>?_)) ?_
   ·rw[List.map_append] at h2
    by_cases hi:i<(qs.map eP).length
    ·rw[List.getElem?_append_left hi] at h1 h2
     rw[h1] at h2;cases h2;exact FM _
    ·rw[List.getElem?_append_right (by omega)] at h1 h2
     obtain⟨j,hj⟩: ∃j,i - (qs.map eP).length=j:=⟨_,rfl⟩;rw[hj] at h1 h2
     cases j with
     |succ j=>simp at h1
     |zero=>
      cases h1;cases h2;simp[LF,wk,eP,Aj,eI]
   ·simp only[Ad]
    (refine AE hE [0,1,6] rfl ?_ ?_<;>simp[AU,AO,lk,ren,renL,A9,AL,AK]<;>(try omega))
  |succ m=>
   have e2:((m+1:Nat):Int) - 1=(m:Int):=by omega
   obtain⟨x,hx⟩: ∃x,way[m]?=some x:=⟨_,List.getElem?_eq_getElem (by omega)⟩;have hqx:=hsame m x (by omega) hx;have hxl:x<qs.length:=(List.getElem?_eq_some_iff.1 hqx).1
   have hxp:x<ps.length:=by
    subst hway;obtain⟨_,_,_,b4⟩:=D2 h.ok k d r [] [] h.good (.inl rfl) m x hx
    rcases b4 with e |⟨y,hy⟩
    ·rw[e];exact h.rl
    ·exact h.kin y _ hy
   have hpgq:pg qs x=pg ps x:=MP hqx;have hok:=h.ok x _ (DR hxp);rw[List.take_add_one,hx] at hres;simp only[Option.toList_some,List.reverse_append,List.reverse_cons,List.reverse_nil,List.nil_append,List.singleton_append,DF,GB,hpgq] at hres
   have hdis: ∀j y,j<m→way[j]?=some y→x≠y:=fun j y hj hy e=>by
    subst hway e;obtain⟨l1,h1,g1⟩:=EU h.ok k d r [] [] h.good m x hx;obtain⟨l2,h2,g2⟩:=EU h.ok k d r [] [] h.good j x hy;have:=Bo (BX h.ok) _ _ _ _ _ _ _ g1 g2;omega
   have hsam2: ∀(j y:Nat),j<m→way[j]?=some y→qs[y]?=some (pg ps y):=fun j y hj hy=>hsame j y (by omega) hy;clear hsame;generalize pg ps x=p at *;have hat:=Bc p up;have hk4:=hok.nk
   have hkl:p.kids.length=if p.leaf then p.keys.length else p.keys.length+1:=by
    cases hlf:p.leaf
    ·exact hok.ki hlf
    ·exact hok.kl hlf
   have pc:=K5 E.G false true p up (Bl hok) hk4;generalize hatE:AN p up=at_ at *;have ik:=Sc E.G p.keys up at_ hat (by omega);obtain⟨a2,ha2⟩: ∃a2,(if p.leaf then at_ else at_+1)=a2:=⟨_,rfl⟩
   have ha2l:a2≤p.kids.length:=by rw[←ha2,hkl];split<;>omega
   have ii:=Sd E.G p.kids kid a2 ha2l (by rw[hkl];split<;>omega)
   have hpu:(qs.map uP)[x]?=some (uP p):=by rw[List.getElem?_map,hqx];rfl
   have zm:((m:Int)<0)=False:=eq_false (by omega);have zw:((m:Int)<(way.length:Int))=True:=eq_true (by omega);have zx:((x:Int)<(qs.length:Int))=True:=eq_true (by omega);simp only[e2];(refine AWP.emb (Fg (T:=?z2T) (k:=?z2k) (els:=?z2e) (T':=?z2T1) (k':=?z2k1) (els':=?z2e1) (op:=?z2op) (e:=?z2ee) 2 x 1 ?z2h ?z2he ?z2hj ?z2ho) ?z2g;(case z2h=>rfl);(case z2he=>exact hpu);(case z2hj=>rfl);(case z2ho=>simp[CN]);simp only[List.length_map]);(refine AWP.emb (Fg (T:=?z3T) (k:=?z3k) (els:=?z3e) (T':=?z3T1) (k':=?z3k1) (els':=?z3e1) (op:=?z3op) (e:=?z3ee) 2 x 2 ?z3h ?z3he ?z3hj ?z3ho) ?z3g;(case z3h=>rfl);(case z3he=>exact hpu);(case z3hj=>rfl);(case z3ho=>simp[CN]);simp only[List.length_map]);have dz1:Cv true (p.keys.map Aj)=p.keys.map Aj:=CT true Aj Aj (fun _=>rfl) _;have dz2:Cv true (p.kids.map eI)=p.kids.map eI:=CT true eI eI (fun _=>rfl) _;(refine AWP.emb (EG (T:=?z4T) (k:=?z4k) (els:=?z4e) 3 ?z4h) ?z4g;(case z4h=>rfl);simp only[Ad,dz1]);(refine AWP.emb (EG (T:=?z5T) (k:=?z5k) (els:=?z5e) 4 ?z5h) ?z5g;(case z5h=>rfl);simp only[Ad,dz2,Nat.reduceAdd]);clear hR;(repeat' (first |refine A0 ?_ |refine A5 ?_ |refine A6 ?_ |((first |refine rR (fun K kp hK hkp=>?_) |refine rD (id:=17) mixed 8 [0,1,2,3,4,5,6,7] (fun K kp hK hkp=>?_) |refine cR pc ?_);simp(implicitDefEqProofs:=false) (maxSteps:=2000000) (disch:=omega) only[go_sem,zm,zw,zx,hx,hqx,uP,Cd,hpl];(repeat' (refine hK _ ?_;clear hK hkp kp K))) |refine A4 rfl ?_))
   have hsx: ∀e,((qs.map uP).set x e)[x]?=some e:=fun e=>by rw[List.getElem?_set_self (by simpa using hxl)]
   (refine C6 [3,5] (ik) ?_ ?_ ?_ ?_ ?_ ?_ ?_ ?_ rfl rfl ?_;(·simp[Em,JG,Mg,Ee,CA,FK,lk,zx,hqx,uP,Aj,ne_eq,reduceCtorEq,not_false_eq_true,Value.oneCell']);(·simp[AO,lk,A9,renL,ren,AL,zx,hqx,uP,Aj,ne_eq,reduceCtorEq,not_false_eq_true,Value.oneCell']);(·(intro i hi;simp only[List.length_cons,List.length_nil] at hi;repeat' (first |omega |exact⟨_,rfl⟩ |(rcases i with _ |i))));(·simp);(·simp);(·simp);(·simp[zx,hqx,uP,Aj,ne_eq,reduceCtorEq,not_false_eq_true,Value.oneCell']);(·simp[zx,hqx,uP,Aj,ne_eq,reduceCtorEq,not_false_eq_true,Value.oneCell']);simp only[CJ,fw,LC,rm,List.map_cons,List.map_nil,List.foldl_cons,List.foldl_nil,List.getElem?_cons_zero,List.getElem?_cons_succ,List.getElem?_nil,List.length_cons,List.length_nil,Nat.zero_add,Nat.sub_self,Nat.add_zero,↓reduceIte,Nat.reduceEqDiff,reduceCtorEq,Nat.reduceAdd,Nat.reduceSub,List.cons_append,List.nil_append,ren,renL,A9,zx,hqx,uP,Aj,ne_eq,reduceCtorEq,not_false_eq_true,Value.oneCell'];simp(implicitDefEqProofs:=false) (maxSteps:=2000000) (disch:=omega) only[go_sem,zx,hqx,uP,Aj,ne_eq,reduceCtorEq,not_false_eq_true,Value.oneCell'];(repeat' (refine hK _ ?_;clear hK hkp kp K)));refine Mx (fx:=⟨[(18,.r (.int .i64 a2)),(17,.p 2 x 0),(16,.r (.int .i64 m)),(15,.r (.int .i64 kid)),(13,.ro true 1 (way.map Cd)),(12,.p 1 0 0),(7,.r (.int .i64 0)),(6,.p 0 0 0)],[(0,.box 33 [.r (.slice none 0 0),.r (.int .i64 0)]),(1,.box 33 [.s 2 0 qs.length,.r (.int .i64 r)]),(2,.ul 131 5 ((qs.map uP).set x [.r (.bool p.leaf),.any,.u 3 1 (p.kids.map eI),.ro true 1 (p.high.map AC),.r (.int .i64 p.next)]) [(x,1,.s 3 0 (p.keys.length+1)),(x,2,.s 4 0 p.kids.length)]),(3,.lst 81 1 ((Bn p.keys at_ up).map Aj)),(4,.lst 3 1 (p.kids.map eI))],5⟩) ?_ fun K2 hcut2=>?_;rotate_left
   ·cases hlf:p.leaf
    ·obtain rfl:at_+1=a2:=by rw[←ha2,hlf];rfl
     simp only[hlf] at hcut2
     have e4:(at_:Int)+1=((at_+1:Nat):Int):=by omega
     (repeat' (first |refine A0 ?_ |((refine rR (fun K kp hK hkp=>?_));simp(implicitDefEqProofs:=false) (maxSteps:=2000000) (disch:=omega) only[go_sem,hlf,hsx,e4];(repeat' (refine hK _ ?_;clear hK hkp kp K))) |refine A3 rfl ?_));refine hcut2 _ ?_;(refine AE hE [0,1,2,6,4] rfl ?_ ?_<;>simp[AU,AO,lk,ren,renL,A9,AL,AK]<;>(try omega))
    ·obtain rfl:at_=a2:=by rw[←ha2,hlf];rfl
     simp only[hlf] at hcut2;(repeat' (first |refine A0 ?_ |refine A6 ?_ |((refine rR (fun K kp hK hkp=>?_));simp(implicitDefEqProofs:=false) (maxSteps:=2000000) (disch:=omega) only[go_sem,hlf,hsx];(repeat' (refine hK _ ?_;clear hK hkp kp K))) |refine A4 rfl ?_));refine hcut2 _ ?_;(refine AE hE [0,1,2,6,4] rfl ?_ ?_<;>simp[AU,AO,lk,ren,renL,A9,AL,AK]<;>(try omega))
   clear ik pc dz1 dz2;(repeat' (first |refine A0 ?_ |((refine rR (fun K kp hK hkp=>?_));simp(implicitDefEqProofs:=false) (maxSteps:=2000000) (disch:=omega) only[go_sem,zx,hqx,hsx];(repeat' (omega)))));(refine C6 [4,5] (ii) ?_ ?_ ?_ ?_ ?_ ?_ ?_ ?_ rfl rfl ?_;(·simp[Em,JG,Mg,Ee,CA,FK,lk,zx,hsx,eI,ne_eq,reduceCtorEq,not_false_eq_true,Value.oneCell']);(·simp[AO,lk,A9,renL,ren,AL,zx,hsx,eI,ne_eq,reduceCtorEq,not_false_eq_true,Value.oneCell']);(·(intro i hi;simp only[List.length_cons,List.length_nil] at hi;repeat' (first |omega |exact⟨_,rfl⟩ |(rcases i with _ |i))));(·simp);(·simp);(·simp);(·simp[zx,hsx,eI,ne_eq,reduceCtorEq,not_false_eq_true,Value.oneCell']);(·simp[zx,hsx,eI,ne_eq,reduceCtorEq,not_false_eq_true,Value.oneCell']);simp only[CJ,fw,LC,rm,List.map_cons,List.map_nil,List.foldl_cons,List.foldl_nil,List.getElem?_cons_zero,List.getElem?_cons_succ,List.getElem?_nil,List.length_cons,List.length_nil,Nat.zero_add,Nat.sub_self,Nat.add_zero,↓reduceIte,Nat.reduceEqDiff,reduceCtorEq,Nat.reduceAdd,Nat.reduceSub,List.cons_append,List.nil_append,ren,renL,A9,zx,hsx,eI,ne_eq,reduceCtorEq,not_false_eq_true,Value.oneCell'];simp(implicitDefEqProofs:=false) (maxSteps:=2000000) (disch:=omega) only[go_sem,zx,hsx,eI,ne_eq,reduceCtorEq,not_false_eq_true,Value.oneCell'];(repeat' (refine hK _ ?_;clear hK hkp kp K)));obtain⟨q,hq⟩: ∃q,I6 p at_ up kid=q:=⟨_,rfl⟩
   have q1:Bn p.keys at_ up=q.keys:=by rw[←hq];rfl
   have q2:Bn p.kids a2 kid=q.kids:=by rw[←hq,←ha2];rfl
   have q3:p.leaf=q.leaf:=by rw[←hq];rfl
   have q4:p.high=q.high:=by rw[←hq];rfl
   have q5:p.next=q.next:=by rw[←hq];rfl
   have ql:q.keys.length=p.keys.length+1:=by rw[←q1,Co _ hat]
   have qk:q.kids.length=p.kids.length+1:=by rw[←q2,Co _ ha2l]
   have hkm: ∀y ∈ q.keys,y.length≤1048576:=fun y hy=>by
    rw[←q1] at hy
    rcases EX hy with rfl |hy
    ·exact hupl
    ·obtain⟨j,hj⟩:=List.mem_iff_getElem?.1 hy
     have:=(hok.ks j (List.getElem?_eq_some_iff.1 hj).1).1;rw[List.getD_eq_getElem?_getD,hj,Option.getD_some,DM,Bool.and_eq_true,decide_eq_true_eq,decide_eq_true_eq] at this;omega
   rw[hq] at hres;rw[q1,q2,q3,q4,q5,←ql,←qk]
   have hkl2:q.kids.length=if q.leaf then q.keys.length else q.keys.length+1:=by
    rw[qk,ql,hkl,q3];split<;>rfl
   have hq4:q.keys.length≤5:=by omega
   clear ii q1 q2 q3 q4 q5 hq ha2 ha2l hat hatE hkl hk4 qk ql;refine AWP.emb (st':=⟨[(17,.p 2 x 0),(16,.r (.int .i64 m)),(13,.ro true 1 (way.map Cd)),(12,.p 1 0 0),(7,.r (.int .i64 0)),(6,.p 0 0 0)],[(0,.box 33 [.r (.slice none 0 0),.r (.int .i64 0)]),(1,.box 33 [.s 2 0 qs.length,.r (.int .i64 r)]),(2,.ul 131 5 ((qs.map uP).set x [.r (.bool q.leaf),.any,.any,.ro true 1 (q.high.map AC),.r (.int .i64 q.next)]) [(x,2,.s 4 0 q.kids.length),(x,1,.s 3 0 q.keys.length)]),(3,.ul 81 1 (q.keys.map Aj) []),(4,.ul 3 1 (q.kids.map eI) [])],5⟩) ?_ ?_
   ·refine Emb.trans (BY 3 rfl) ?_
    refine Emb.trans (BY 6 rfl) ?_;simp only[Ad];(refine AE hE [0,1,2,3,6] rfl ?_ ?_<;>simp[AU,AO,lk,ren,renL,A9,AL,AK,List.set_set]<;>(try omega))
   have t1:(q.keys.map Aj).take q.keys.length=q.keys.map Aj:=List.take_of_length_le (by simp);have t2:(q.kids.map eI).take q.kids.length=q.kids.map eI:=List.take_of_length_le (by simp)
   have hset:(qs.map uP).set x (uP q)=(qs.set x q).map uP:=by rw[List.map_set]
   have hsl:(qs.set x q).length=qs.length:=List.length_set
   by_cases h4:q.keys.length≤4
   ·have z4:((q.keys.length:Int)≤4)=True:=eq_true (by omega)
    have hR1:R=(qs.set x q,(r:Int)):=by rw[←hres,Du,if_pos h4];rfl
    rw[hR1] at hcut;(repeat' (first |refine A0 ?_ |refine AB ?_ |((refine rR (fun K kp hK hkp=>?_));simp(implicitDefEqProofs:=false) (maxSteps:=2000000) (disch:=omega) only[go_sem,zx,hsx,z4];(repeat' (refine hK _ ?_;clear hK hkp kp K))) |refine A3 rfl ?_));refine hcut _ ?_;(refine Emb.trans (Ay (T:=?z6T) (k:=?z6k) (els:=?z6e) (T':=?z6T1) (k':=?z6k1) (els':=?z6e1) (op:=?z6op) (e:=?z6ee) (m:=?z6m) (lo:=?z6lo) (len:=?z6len) 2 x 1 ?z6h ?z6ho ?z6hm ?z6hn ?z6hl ?z6he ?z6hj) ?z6g;(case z6h=>rfl);(case z6he=>exact hsx _);(case z6ho=>(simp only[CN,and_self,if_true,↓reduceIte,List.length_map,t1,List.set_set,List.length_cons,List.length_nil,true_and,Nat.reduceLeDiff,Nat.reduceAdd,Nat.lt_irrefl,and_false];rfl));(case z6hm=>rfl);(case z6hn=>simp);(case z6hl=>simp[List.length_map,t1,List.set_set,List.length_cons,List.length_nil,true_and,Nat.reduceLeDiff,Nat.reduceAdd,Nat.lt_irrefl,and_false]);(case z6hj=>simp[List.length_map,t1,List.set_set,List.length_cons,List.length_nil,true_and,Nat.reduceLeDiff,Nat.reduceAdd,Nat.lt_irrefl,and_false]);simp only[rm,Gu,and_self,Nat.le_refl,Nat.zero_add,Nat.lt_add_one,Nat.reduceLT,Nat.reduceEqDiff,↓reduceIte,if_true,List.drop_zero,List.set_cons_zero,List.set_cons_succ,List.length_map,t1,List.set_set,List.length_cons,List.length_nil,true_and,Nat.reduceLeDiff,Nat.reduceAdd,Nat.lt_irrefl,and_false]);(refine Emb.trans (Ay (T:=?z7T) (k:=?z7k) (els:=?z7e) (T':=?z7T1) (k':=?z7k1) (els':=?z7e1) (op:=?z7op) (e:=?z7ee) (m:=?z7m) (lo:=?z7lo) (len:=?z7len) 2 x 2 ?z7h ?z7ho ?z7hm ?z7hn ?z7hl ?z7he ?z7hj) ?z7g;(case z7h=>rfl);(case z7he=>exact hsx _);(case z7ho=>(simp only[CN,and_self,if_true,↓reduceIte,List.length_map,t2,List.set_set,List.length_cons,List.length_nil,true_and,Nat.reduceLeDiff,Nat.reduceAdd,Nat.lt_irrefl,and_false];rfl));(case z7hm=>rfl);(case z7hn=>simp);(case z7hl=>simp[List.length_map,t2,List.set_set,List.length_cons,List.length_nil,true_and,Nat.reduceLeDiff,Nat.reduceAdd,Nat.lt_irrefl,and_false]);(case z7hj=>simp[List.length_map,t2,List.set_set,List.length_cons,List.length_nil,true_and,Nat.reduceLeDiff,Nat.reduceAdd,Nat.lt_irrefl,and_false]);simp only[rm,Gu,and_self,Nat.le_refl,Nat.zero_add,Nat.lt_add_one,Nat.reduceLT,Nat.reduceEqDiff,↓reduceIte,if_true,List.drop_zero,List.set_cons_zero,List.set_cons_succ,List.length_map,t2,List.set_set,List.length_cons,List.length_nil,true_and,Nat.reduceLeDiff,Nat.reduceAdd,Nat.lt_irrefl,and_false]);change Emb _ _ ⟨_,(2,.ul _ _ (List.set _ _ (uP q)) _)::_,_⟩ _;rw[hset];refine Emb.trans (EG 2 rfl) ?_;simp only[Ad,Jb,←Vr];(refine AE hE [0,1,2] rfl ?_ ?_<;>simp[AU,AO,lk,ren,renL,A9,AL,AK,hsl]<;>(try omega))
   ·have z4:((q.keys.length:Int)≤4)=False:=eq_false (by omega)
    have h5:q.keys.length=5:=by omega
    have hk5:q.kids.length=if q.leaf then 5 else 6:=by rw[hkl2,h5]
    obtain⟨u,hu⟩: ∃u,q.keys[2]?=some u:=⟨_,List.getElem?_eq_getElem (by omega)⟩
    have hmid:EV q=u:=by rw[EV,List.getD_eq_getElem?_getD,hu];rfl
    have hul:=hkm u (List.mem_of_getElem? hu);have sc:=QT E.G (qs.set x q) r x q u (by rw[List.getElem?_set_self hxl]) h5 hk5 hu hul (by rw[hsl];omega)
    have hsp:D1 (qs.set x q) x q=D1 qs x q:=by simp only[D1,List.set_set,hsl]
    have hspl:(D1 qs x q).length=qs.length+1:=by simp[D1]
    have hput:Du qs x q=(D1 qs x q,some (u,(qs.length:Int))):=by rw[Du,if_neg h4,hmid]
    rw[hsl,hsp] at sc;rw[hput] at hres;refine A0 ?_;refine A0 ?_;(refine rR (fun K kp hK hkp=>?_);simp(implicitDefEqProofs:=false) (maxSteps:=2000000) (disch:=omega) only[go_sem,zx,hsx,z4];(repeat' (refine hK _ ?_;clear hK hkp kp K)));refine A4 rfl ?_;refine A6 ?_;(refine AWP.emb (Ay (T:=?z8T) (k:=?z8k) (els:=?z8e) (T':=?z8T1) (k':=?z8k1) (els':=?z8e1) (op:=?z8op) (e:=?z8ee) (m:=?z8m) (lo:=?z8lo) (len:=?z8len) 2 x 1 ?z8h ?z8ho ?z8hm ?z8hn ?z8hl ?z8he ?z8hj) ?z8g;(case z8h=>rfl);(case z8he=>exact hsx _);(case z8ho=>(simp only[CN,and_self,if_true,↓reduceIte,List.length_map,t1,List.set_set,List.length_cons,List.length_nil,true_and,Nat.reduceLeDiff,Nat.reduceAdd,Nat.lt_irrefl,and_false];rfl));(case z8hm=>rfl);(case z8hn=>simp);(case z8hl=>simp[List.length_map,t1,List.set_set,List.length_cons,List.length_nil,true_and,Nat.reduceLeDiff,Nat.reduceAdd,Nat.lt_irrefl,and_false]);(case z8hj=>simp[List.length_map,t1,List.set_set,List.length_cons,List.length_nil,true_and,Nat.reduceLeDiff,Nat.reduceAdd,Nat.lt_irrefl,and_false]);simp only[rm,Gu,and_self,Nat.le_refl,Nat.zero_add,Nat.lt_add_one,Nat.reduceLT,Nat.reduceEqDiff,↓reduceIte,if_true,List.drop_zero,List.set_cons_zero,List.set_cons_succ,List.length_map,t1,List.set_set,List.length_cons,List.length_nil,true_and,Nat.reduceLeDiff,Nat.reduceAdd,Nat.lt_irrefl,and_false]);(refine AWP.emb (Ay (T:=?z9T) (k:=?z9k) (els:=?z9e) (T':=?z9T1) (k':=?z9k1) (els':=?z9e1) (op:=?z9op) (e:=?z9ee) (m:=?z9m) (lo:=?z9lo) (len:=?z9len) 2 x 2 ?z9h ?z9ho ?z9hm ?z9hn ?z9hl ?z9he ?z9hj) ?z9g;(case z9h=>rfl);(case z9he=>exact hsx _);(case z9ho=>(simp only[CN,and_self,if_true,↓reduceIte,List.length_map,t2,List.set_set,List.length_cons,List.length_nil,true_and,Nat.reduceLeDiff,Nat.reduceAdd,Nat.lt_irrefl,and_false];rfl));(case z9hm=>rfl);(case z9hn=>simp);(case z9hl=>simp[List.length_map,t2,List.set_set,List.length_cons,List.length_nil,true_and,Nat.reduceLeDiff,Nat.reduceAdd,Nat.lt_irrefl,and_false]);(case z9hj=>simp[List.length_map,t2,List.set_set,List.length_cons,List.length_nil,true_and,Nat.reduceLeDiff,Nat.reduceAdd,Nat.lt_irrefl,and_false]);simp only[rm,Gu,and_self,Nat.le_refl,Nat.zero_add,Nat.lt_add_one,Nat.reduceLT,Nat.reduceEqDiff,↓reduceIte,if_true,List.drop_zero,List.set_cons_zero,List.set_cons_succ,List.length_map,t2,List.set_set,List.length_cons,List.length_nil,true_and,Nat.reduceLeDiff,Nat.reduceAdd,Nat.lt_irrefl,and_false]);change AWP _ _ _ _ ⟨_,(2,.ul _ _ (List.set _ _ (uP q)) _)::_,_⟩ _;rw[hset];(repeat' ((refine rR (fun K kp hK hkp=>?_));simp(implicitDefEqProofs:=false) (maxSteps:=2000000) (disch:=omega) only[go_sem,zw,hx,Cd,hpl];(repeat' (omega))));(refine C6 [1,2] (sc) ?_ ?_ ?_ ?_ ?_ ?_ ?_ ?_ rfl rfl ?_;(·simp[Em,JG,Mg,Ee,CA,FK,lk,zx,AK]);(·simp[AO,lk,A9,renL,ren,AL,zx,AK]);(·(intro i hi;simp only[List.length_cons,List.length_nil] at hi;repeat' (first |omega |exact⟨_,rfl⟩ |(rcases i with _ |i))));(·simp);(·simp);(·simp);(·simp[zx,AK]);(·simp[zx,AK]);simp only[CJ,fw,LC,rm,List.map_cons,List.map_nil,List.foldl_cons,List.foldl_nil,List.getElem?_cons_zero,List.getElem?_cons_succ,List.getElem?_nil,List.length_cons,List.length_nil,Nat.zero_add,Nat.sub_self,Nat.add_zero,↓reduceIte,Nat.reduceEqDiff,reduceCtorEq,Nat.reduceAdd,Nat.reduceSub,List.cons_append,List.nil_append,ren,renL,A9,zx,AK];simp(implicitDefEqProofs:=false) (maxSteps:=2000000) (disch:=omega) only[go_sem,zx,AK];(repeat' (refine hK _ ?_;clear hK hkp kp K)))
    (repeat' ((refine rR (fun K kp hK hkp=>?_));simp(implicitDefEqProofs:=false) (maxSteps:=2000000) (disch:=omega) only[go_sem];(repeat' (refine hK _ ?_;clear hK hkp kp K))))
    ((refine AJ ((m,D1 qs x q,u,(qs.length:Int))) ?_ ?_ ?_);rotate_left;(·(try dsimp only);(omega));(·(refine AE hE [0,1,6] rfl ?_ ?_<;>simp[AU,AO,lk,ren,renL,A9,AL,AK,hspl]<;>(try omega))))
    exact⟨by omega,hres,fun j y hj hy=>by
     have:=MN (q:=q) (hdis j y hj hy) (hsam2 j y hj hy);rw[hput] at this
     exact this,by rw[hspl];omega,hul⟩
 ·by_cases h4:4000<R.1.length
  ·have z4:((R.1.length:Int)>4000)=True:=eq_true (by omega)
   rw[if_pos h4];(repeat' (first |refine A0 ?_ |((refine rR (fun K kp hK hkp=>?_));simp(implicitDefEqProofs:=false) (maxSteps:=2000000) (disch:=omega) only[go_sem,z4];(repeat' (refine hK _ ?_;clear hK hkp kp K))) |refine A3 rfl ?_ |refine A8 ?_));(refine A7 (by(simp(implicitDefEqProofs:=false) (maxSteps:=2000000) (disch:=omega) only[go_sem,results47]);rfl) ?_;refine eN hE ?_;simp[AG,ren,renL])
  ·have z4:((R.1.length:Int)>4000)=False:=eq_false (by omega)
   rw[if_neg h4,Gn];(repeat' (first |refine A0 ?_ |refine A6 ?_ |((refine rR (fun K kp hK hkp=>?_));simp(implicitDefEqProofs:=false) (maxSteps:=2000000) (disch:=omega) only[go_sem,z4];(repeat' (refine hK _ ?_;clear hK hkp kp K))) |refine A4 rfl ?_ |refine A8 ?_));(refine A7 (by(simp(implicitDefEqProofs:=false) (maxSteps:=2000000) (disch:=omega) only[go_sem,results47]);rfl) ?_;refine Ar (by simp only[AG];simp(implicitDefEqProofs:=false) (maxSteps:=2000000) (disch:=omega) only[go_sem];rfl) ?_;refine(Al hE (by simp) ?_).s;simp[AG,ren,renL])
noncomputable def D6 (ps:List PG)(root:Int)(k:Ky)(row:Int):Int:=if CG ps root k≠0 then CG ps root k else if row<0 then 3 else 0
set_option maxHeartbeats 4000000 in
theorem Sb (G:List (Nat×List Value))(t:Bool)(ps:List PG)(root:Int)(k:Ky)(row:Int)(ho:BG ps)(hk:k.length≤1048576)(R:List PG×Int×Int)(h1:D6 ps root k row≠0→R=([],0,D6 ps root k row))(hR:D6 ps root k row=0→ ∀r d:Nat,root=r→Trd ps r d→R=LL ps k row r d):
  Con prog G 47 [.agg [.ro true 5 (ps.map eP),.r (.int .i64 root)],.ro t 1 (k.map AC),.r (.int .i64 row)] [] 0 (Is (Gn R) [] 0) No:=by
 have cc:=F8 G t ps root k ho
 by_cases h0:CG ps root k=0
 ·rw[h0] at cc
  obtain⟨r,d,rfl,h⟩:=GS (Ho h0)
  by_cases hrow:row<0
  ·have hE:D6 ps r k row=3:=by simp[D6,h0,hrow]
   rw[h1 (by rw[hE];decide),hE,Gn];have zr:(row<0)=True:=eq_true hrow;refine Con.res (y:= .tup [.agg [.r (.slice none 0 0),.r (.int .i64 0)],.r (.int .i64 3)]) ?_ (fun w z th v hr=>Br hr);refine AA func47 rfl (by kernel_rfl) (of_decide_eq_true (by kernel_rfl)) ?_;intro E hG hE;subst hG;simp only[B9];(repeat' (first |refine A0 ?_ |refine A6 ?_ |((first |refine rR (fun K kp hK hkp=>?_) |refine cR cc ?_);simp(implicitDefEqProofs:=false) (maxSteps:=2000000) (disch:=omega) only[go_sem,bne_self_eq_false,zr];(repeat' (refine hK _ ?_;clear hK hkp kp K))) |refine A3 rfl ?_ |refine A4 rfl ?_ |refine A8 ?_));(refine A7 (by(simp(implicitDefEqProofs:=false) (maxSteps:=2000000) (disch:=omega) only[go_sem,results47]);rfl) ?_;refine eN hE ?_;simp[AG,ren,renL])
  ·have hE:D6 ps r k row=0:=by simp[D6,h0,hrow]
   rw[hR hE r d rfl h,LL];cases ht:Bu (pg ps (BH ps k d r)) k
   ·rw[if_neg (by simp)]
    have key:=U4 G t ps r d k row ho h hk h0 (by omega) ht _ rfl;split
    ·rename_i h4
     rw[if_pos h4] at key;exact Con.res key (fun w z th v hr=>Br hr)
    ·rename_i h4
     rw[if_neg h4] at key;exact key
   ·rw[if_pos rfl,Gn]
    have fc:=Fz G true t ps r d k h.ok h.kin h.good h.rl h.n h.dl;rw[ht] at fc;have zr:(row<0)=False:=eq_false hrow;refine Con.res (y:= .tup [.agg [.r (.slice none 0 0),.r (.int .i64 0)],.r (.int .i64 9)]) ?_ (fun w z th v hr=>Br hr);refine AA func47 rfl (by kernel_rfl) (of_decide_eq_true (by kernel_rfl)) ?_;intro E hG hE;subst hG;simp only[B9];(repeat' (first |refine A0 ?_ |refine A6 ?_ |((first |refine rR (fun K kp hK hkp=>?_) |refine cR cc ?_ |refine cR fc ?_);simp(implicitDefEqProofs:=false) (maxSteps:=2000000) (disch:=omega) only[go_sem,bne_self_eq_false,zr];(repeat' (refine hK _ ?_;clear hK hkp kp K))) |refine A3 rfl ?_ |refine A4 rfl ?_ |refine A8 ?_));(refine A7 (by(simp(implicitDefEqProofs:=false) (maxSteps:=2000000) (disch:=omega) only[go_sem,results47]);rfl) ?_;refine eN hE ?_;simp[AG,ren,renL])
 ·have hE:D6 ps root k row=CG ps root k:=by simp[D6,h0]
  rw[h1 (by rw[hE];exact h0),hE,Gn]
  have z0:(CG ps root k !=0)=true:=by simp[h0]
  refine Con.res (y:= .tup [.agg [.r (.slice none 0 0),.r (.int .i64 0)],.r (.int .i64 (CG ps root k))]) ?_ (fun w z th v hr=>Br hr);refine AA func47 rfl (by kernel_rfl) (of_decide_eq_true (by kernel_rfl)) ?_;intro E hG hE;subst hG;simp only[B9];(repeat' (first |refine A0 ?_ |((first |refine rR (fun K kp hK hkp=>?_) |refine cR cc ?_);simp(implicitDefEqProofs:=false) (maxSteps:=2000000) (disch:=omega) only[go_sem,z0];(repeat' (refine hK _ ?_;clear hK hkp kp K))) |refine A3 rfl ?_ |refine A8 ?_));(refine A7 (by(simp(implicitDefEqProofs:=false) (maxSteps:=2000000) (disch:=omega) only[go_sem,results47,h0]);rfl) ?_;refine eN hE ?_;simp[AG,ren,renL,h0])
end Go.AM
namespace Go.AM
open Go Go.RowKit
attribute [local irreducible] AWP Aw
theorem Nz {E:Env}{N:Nat}{st:AS}(n j:Nat){T:TypeId}{c:List AV}{x x':AV}{st':AS}(h:lk st.o n=some (.box T c))(hj:c[j]?=some x)(hf:II st x=some (x',st'))(h':lk st'.o n=some (.box T c)):Emb E N st (Ad st' n (.box T (c.set j x'))):=by
 intro th z a w hs;obtain⟨L,h1,h2,h3⟩:=hs.mem.nds n _ h;obtain⟨hp,cells,fr,g1,g2,g3,g4⟩:=h2;obtain⟨y,hy,hr⟩:=g4.get hj;obtain⟨z',hz,hs',hr',hm,hn⟩:=EZ x hs hr hf;refine⟨th,z',hs'.say h' fun L' hL' hA=>?_⟩;obtain⟨hp',cells',fr',k1,k2,k3,k4⟩:=hA;rw[h1] at hL';cases hL';rw[g1] at k1;cases k1;refine⟨hp',_,_,g1,k2,k3,k4.set_at fun u hu=>?_⟩;rw[hy] at hu;cases hu;exact hr'.pure th
def CK {α:Type}(l:List α)(i:Nat)(x:α)(n:Nat):List α:=if n≤i then l.take n else Bn (l.take n) i x
theorem Lo {α:Type}(l:List α)(i:Nat)(x:α):CK l i x 0=[]:=by simp[CK]
theorem Q0 {α:Type}{l:List α}{i n:Nat}{x y:α}(h:n≠i)(hy:l[n]?=some y):CK l i x (n+1)=CK l i x n++[y]:=by
 have ht:l.take (n+1)=l.take n++[y]:=by rw[List.take_add_one,hy];rfl
 have hl:(l.take n).length=n:=by rw[List.length_take];have:=(List.getElem?_eq_some_iff.1 hy).1;omega
 unfold CK
 by_cases h1:n+1≤i
 ·rw[if_pos h1,if_pos (by omega),ht]
 ·rw[if_neg h1,if_neg (by omega),ht]
  unfold Bn;rw[List.take_append_of_le_length (by omega),List.drop_append_of_le_length (by omega)];simp
theorem Q1 {α:Type}{l:List α}{i:Nat}{x y:α}(hy:l[i]?=some y):CK l i x (i+1)=CK l i x i++[x]++[y]:=by
 have ht:l.take (i+1)=l.take i++[y]:=by rw[List.take_add_one,hy];rfl
 have hl:(l.take i).length=i:=by rw[List.length_take];have:=(List.getElem?_eq_some_iff.1 hy).1;omega
 unfold CK;rw[if_neg (by omega),if_pos (by omega),ht];unfold Bn;rw[List.take_append_of_le_length (by omega),List.drop_append_of_le_length (by omega),List.take_of_length_le (by omega),List.drop_eq_nil_of_le (by omega)];simp
theorem HT {α:Type}{l:List α}{i n:Nat}{x:α}(h:n≤l.length):(CK l i x n).length=if n≤i then n else n+1:=by
 have hl:(l.take n).length=n:=by rw[List.length_take];omega
 unfold CK;split
 ·exact hl
 ·rw[Co _ (by omega),hl]
theorem Nb {α:Type}{l:List α}{i:Nat}{x:α}(h:i<l.length):CK l i x l.length=Bn l i x:=by
 unfold CK;rw[if_neg (by omega),List.take_length]
theorem KR {α:Type}{l:List α}{i:Nat}{x:α}(h:i≤l.length):CK l i x (l.length+1)=Bn l i x:=by
 unfold CK;rw[if_neg (by omega),List.take_of_length_le (by omega)]
theorem Lp {α:Type}(l:List α)(x:α):CK l l.length x l.length++[x]=Bn l l.length x:=by
 unfold CK Bn;rw[if_pos (Nat.le_refl _)];simp
def KS (R:Wl):AV:=match R.2 with
 |none=> .tup [.r (.slice none 0 0),.r (.int .i64 0)]
 |some (up,n)=> .tup [.ro true 1 (up.map AC),.r (.int .i64 n)]
def Eo (root:Int)(m:Nat)(ps:List PG):List (Nat×Nd):=[(0,.box 33 [.s m 0 ps.length,.r (.int .i64 root)]),(m,.lst 131 5 (ps.map eP))]
set_option maxHeartbeats 8000000 in
theorem L6 (G:List (Nat×List Value))(t:Bool)(ps qs:List PG)(root:Int)(i:Nat)(p:PG)(k up:Ky)(row kid:Int)(hp:ps[i]?=some p)(hq:qs[i]?=some p)(hn:ps.length≤1000000)(hqn:qs.length≤1000000)(h4:p.keys.length≤4)(hkl:p.kids.length=if p.leaf then p.keys.length else p.keys.length+1)
  (hkm: ∀y ∈ p.keys,y.length≤1048576) (hk:k.length≤1048576) (hul:up.length≤1048576) (at_:Nat) (hat:at_≤p.keys.length) (hlo: ∀(j:Nat)(x:Ky),j<at_→p.keys[j]?=some x→B4 k x=false) (hhi: ∀x,p.keys[at_]?=some x→B4 k x=true)
  (IH:(p.leaf=true∧qs=ps∧up=k∧kid=row)∨(p.leaf=false∧ ∃c:Nat,p.kids[at_]?=some (c:Int)∧up≠[]∧Con prog G 111 [.p 0 0 0,.r (.int .i64 c),.ro t 1 (k.map AC),.r (.int .i64 row)] (Eo root 1 ps) 2 (Is (KS (qs,some (up,kid))) (Eo root 2 qs) 3) No)):
  Con prog G 111 [.p 0 0 0,.r (.int .i64 i),.ro t 1 (k.map AC),.r (.int .i64 row)] (Eo root 1 ps) 2 (Is (KS (Du qs i (I6 p at_ up kid))) (Eo root 2 (Du qs i (I6 p at_ up kid)).1) 3) No:=by
 have hi:i<ps.length:=(List.getElem?_eq_some_iff.1 hp).1;have zi:((i:Int)<(ps.length:Int))=True:=eq_true (by omega);rw[Eo];refine AA func111 rfl (by kernel_rfl) (of_decide_eq_true (by kernel_rfl)) ?_;intro E hG hE;subst hG;simp only[B9];(repeat' (first |refine A0 ?_ |refine A5 ?_ |((refine rR (fun K kp hK hkp=>?_));simp(implicitDefEqProofs:=false) (maxSteps:=2000000) (disch:=omega) only[go_sem,zi,hp,eP];(repeat' (refine hK _ ?_;clear hK hkp kp K)))));refine Hn (fx:=⟨[(11,.r (.int .i64 at_)),(10,.p 2 0 0),(9,.r (.int .i64 0)),(8,.r (.slice none 0 0)),(0,.p 0 0 0),(1,.r (.int .i64 i)),(2,.ro t 1 (k.map AC)),(3,.r (.int .i64 row))],[(0,.box 33 [.s 1 0 ps.length,.r (.int .i64 root)]),(1,.lst 131 5 (ps.map eP)),(2,.box 131 (eP p))],3⟩) ?_ fun K hcut=>?_;rotate_left
 ·refine AH (fun j:Nat=>⟨[(11,.r (.int .i64 j)),(10,.p 2 0 0),(9,.r (.int .i64 0)),(8,.r (.slice none 0 0)),(0,.p 0 0 0),(1,.r (.int .i64 i)),(2,.ro t 1 (k.map AC)),(3,.r (.int .i64 row))],[(0,.box 33 [.s 1 0 ps.length,.r (.int .i64 root)]),(1,.lst 131 5 (ps.map eP)),(2,.box 131 (eP p))],3⟩) (fun j=>j≤at_) (fun j=>at_ - j) 0 ?_ ?_ ?_
  ·exact Nat.zero_le _
  ·(refine AE hE [0,1,2] rfl ?_ ?_<;>simp[AU,AO,lk,ren,renL,A9,AL,eP]<;>(try omega))
  intro j hj
  by_cases hjl:j<p.keys.length
  ·have zj:((j:Int)<(p.keys.length:Int))=True:=eq_true (by omega)
   obtain⟨x,hx⟩: ∃x,p.keys[j]?=some x:=⟨_,List.getElem?_eq_getElem hjl⟩;have kb:=C5 E.G t true k x
   by_cases hja:j<at_
   ·have hb:Op.bytesLess k x=false:=hlo j x hja hx
    rw[hb] at kb;(repeat' (first |refine A0 ?_ |refine A5 ?_ |refine A6 ?_ |((first |refine rR (fun K kp hK hkp=>?_) |refine cR kb ?_);simp(implicitDefEqProofs:=false) (maxSteps:=2000000) (disch:=omega) only[go_sem,zj,hx,eP,Aj];(repeat' (refine hK _ ?_;clear hK hkp kp K))) |refine A3 rfl ?_))
    ((refine Im (j+1) ?_ ?_ ?_);rotate_left;(·(try dsimp only);(omega));(·(refine AE hE [0,1,2] rfl ?_ ?_<;>simp[AU,AO,lk,ren,renL,A9,AL,eP]<;>(try omega))))
    omega
   ·obtain rfl:j=at_:=by omega
    have hb:Op.bytesLess k x=true:=hhi x hx;rw[hb] at kb;(repeat' (first |refine A0 ?_ |refine AB ?_ |((first |refine rR (fun K kp hK hkp=>?_) |refine cR kb ?_);simp(implicitDefEqProofs:=false) (maxSteps:=2000000) (disch:=omega) only[go_sem,zj,hx,eP,Aj];(repeat' (refine hK _ ?_;clear hK hkp kp K))) |refine A4 rfl ?_));refine hcut _ ?_;(refine AE hE [0,1,2] rfl ?_ ?_<;>simp[AU,AO,lk,ren,renL,A9,AL,eP]<;>(try omega))
  ·have zj:((j:Int)<(p.keys.length:Int))=False:=eq_false (by omega)
   obtain rfl:j=at_:=by omega
   (repeat' (first |refine A0 ?_ |refine AB ?_ |((refine rR (fun K kp hK hkp=>?_));simp(implicitDefEqProofs:=false) (maxSteps:=2000000) (disch:=omega) only[go_sem,zj,eP,Aj];(repeat' (refine hK _ ?_;clear hK hkp kp K))) |refine A4 rfl ?_));refine hcut _ ?_;(refine AE hE [0,1,2] rfl ?_ ?_<;>simp[AU,AO,lk,ren,renL,A9,AL,eP]<;>(try omega))
 refine L3 (fx:=⟨[(13,.r (.int .i64 kid)),(12,.ro true 1 (up.map AC)),(11,.r (.int .i64 at_)),(10,.p 2 0 0),(0,.p 0 0 0),(1,.r (.int .i64 i))],[(0,.box 33 [.s 3 0 qs.length,.r (.int .i64 root)]),(3,.lst 131 5 (qs.map eP)),(2,.box 131 (eP p))],4⟩) ?_ fun K hcut=>?_;rotate_left
 ·have bc:=BT E.G t k hk
  rcases IH with ⟨hlf,rfl,rfl,rfl⟩ |⟨hlf,c,hc,hne,IH⟩
  ·(repeat' (first |refine A0 ?_ |refine A6 ?_ |((first |refine rR (fun K kp hK hkp=>?_) |refine cR bc ?_);simp(implicitDefEqProofs:=false) (maxSteps:=2000000) (disch:=omega) only[go_sem,hlf,eP];(repeat' (refine hK _ ?_;clear hK hkp kp K))) |refine A4 rfl ?_))
   refine hcut _ ?_;(refine Vq [0,1,2,1] ?_ ?_ rfl ?_ ?_ ?_ ?_<;>simp[JI,AU,AO,lk,ren,renL,A9,AL,hE,eP,hlf]<;>(try omega)<;>(try (intro i hi;first |(rcases i with _ |_ |i;rfl;rfl;(exfalso;omega)) |(rcases i with _ |_ |_ |i;rfl;rfl;rfl;(exfalso;omega)) |(rcases i with _ |_ |_ |_ |i;rfl;rfl;rfl;rfl;(exfalso;omega)) |(rcases i with _ |_ |_ |_ |_ |i;rfl;rfl;rfl;rfl;rfl;(exfalso;omega)) |(rcases i with _ |_ |_ |_ |_ |_ |i;rfl;rfl;rfl;rfl;rfl;rfl;(exfalso;omega)))))
  ·rw[Eo,Eo,KS] at IH
   have zc:((at_:Int)<(p.kids.length:Int))=True:=eq_true (by have:=(List.getElem?_eq_some_iff.1 hc).1;omega)
   obtain⟨u,us,rfl⟩: ∃u us,up=u::us:=by
    cases up with
    |nil=>exact absurd rfl hne
    |cons u us=>exact⟨u,us,rfl⟩
   simp only at IH;(repeat' (first |refine A0 ?_ |((first |refine rR (fun K kp hK hkp=>?_) |refine cR bc ?_);simp(implicitDefEqProofs:=false) (maxSteps:=2000000) (disch:=omega) only[go_sem,hlf,eP,zc,hc,eI];(repeat' (refine hK _ ?_;clear hK hkp kp K))) |refine A3 rfl ?_));(refine C6 [0,1] (IH) ?_ ?_ ?_ ?_ ?_ ?_ ?_ ?_ rfl rfl ?_;(·simp[Em,JG,Mg,Ee,CA,FK,lk,hlf,AK]);(·simp[AO,lk,A9,renL,ren,AL,hlf,AK]);(·(intro i hi;simp only[List.length_cons,List.length_nil] at hi;repeat' (first |omega |exact⟨_,rfl⟩ |(rcases i with _ |i))));(·simp);(·simp);(·simp);(·simp[hlf,AK]);(·simp[hlf,AK]);simp only[CJ,fw,LC,rm,List.map_cons,List.map_nil,List.foldl_cons,List.foldl_nil,List.getElem?_cons_zero,List.getElem?_cons_succ,List.getElem?_nil,List.length_cons,List.length_nil,Nat.zero_add,Nat.sub_self,Nat.add_zero,↓reduceIte,Nat.reduceEqDiff,reduceCtorEq,Nat.reduceAdd,Nat.reduceSub,List.cons_append,List.nil_append,ren,renL,A9,hlf,AK];simp(implicitDefEqProofs:=false) (maxSteps:=2000000) (disch:=omega) only[go_sem,hlf,AK];(repeat' (refine hK _ ?_;clear hK hkp kp K)));(repeat' (first |refine A0 ?_ |refine A6 ?_ |((refine rR (fun K kp hK hkp=>?_));simp(implicitDefEqProofs:=false) (maxSteps:=2000000) (disch:=omega) only[go_sem,hlf,List.map_cons];(repeat' (refine hK _ ?_;clear hK hkp kp K))) |refine A4 rfl ?_));refine hcut _ ?_;(refine AE hE [0,1,2,3] rfl ?_ ?_<;>simp[AU,AO,lk,ren,renL,A9,AL,eP,hlf]<;>(try omega))
 clear IH hlo hhi hk hn hp zi hi;(repeat' (first |refine A0 ?_ |refine A5 ?_ |((refine rR (fun K kp hK hkp=>?_));simp(implicitDefEqProofs:=false) (maxSteps:=2000000) (disch:=omega) only[go_sem,eP];(repeat' (refine hK _ ?_;clear hK hkp kp K)))));(refine AWP.emb (BD 4 1 81 1 rfl rfl (by simp)) ?_;simp only[List.set_cons_zero,List.set_cons_succ,lk,↓reduceIte,Nat.reduceAdd]);(refine AWP.emb (BD 4 2 3 1 rfl rfl (by simp)) ?_;simp only[List.set_cons_zero,List.set_cons_succ,lk,↓reduceIte,Nat.reduceAdd]);refine Hn (fx:=⟨[(16,.p 4 0 0),(13,.r (.int .i64 kid)),(12,.ro true 1 (up.map AC)),(11,.r (.int .i64 at_)),(10,.p 2 0 0),(0,.p 0 0 0),(1,.r (.int .i64 i))],[(0,.box 33 [.s 3 0 qs.length,.r (.int .i64 root)]),(3,.lst 131 5 (qs.map eP)),(2,.box 131 (eP p)),(4,.box 131 [.r (.bool p.leaf),.s 5 0 (CK p.keys at_ up p.keys.length).length,.s 6 0 0,.ro true 1 (p.high.map AC),.r (.int .i64 p.next)]),(5,.lst 81 1 ((CK p.keys at_ up p.keys.length).map Aj)),(6,.lst 3 1 [])],7⟩) ?_ fun K hcut=>?_;rotate_left
 ·refine AH (fun n:Nat=>⟨[(17,.r (.int .i64 n)),(16,.p 4 0 0),(13,.r (.int .i64 kid)),(12,.ro true 1 (up.map AC)),(11,.r (.int .i64 at_)),(10,.p 2 0 0),(0,.p 0 0 0),(1,.r (.int .i64 i))],[(0,.box 33 [.s 3 0 qs.length,.r (.int .i64 root)]),(3,.lst 131 5 (qs.map eP)),(2,.box 131 (eP p)),(4,.box 131 [.r (.bool p.leaf),.s 5 0 (CK p.keys at_ up n).length,.s 6 0 0,.ro true 1 (p.high.map AC),.r (.int .i64 p.next)]),(5,.lst 81 1 ((CK p.keys at_ up n).map Aj)),(6,.lst 3 1 [])],7⟩) (fun n=>n≤p.keys.length) (fun n=>p.keys.length - n) 0 ?_ ?_ ?_
  ·exact Nat.zero_le _
  ·(refine AE hE [0,1,2,3,4,5,6] rfl ?_ ?_<;>simp[AU,AO,lk,ren,renL,A9,AL,eP,Lo]<;>(try omega))
  intro n hn;have hnl:=HT (i:=at_) (x:=up) hn
  have hnl2:(CK p.keys at_ up n).length≤100:=by rw[hnl];split<;>omega
  by_cases hnk:n<p.keys.length
  ·have zn:((n:Int)<(p.keys.length:Int))=True:=eq_true (by omega)
   obtain⟨y,hy⟩: ∃y,p.keys[n]?=some y:=⟨_,List.getElem?_eq_getElem hnk⟩
   by_cases hna:n=at_
   ·subst hna
    have hT:=Q1 (x:=up) hy;(repeat' (first |refine A0 ?_ |refine A5 ?_ |refine A6 ?_ |((first |refine rR (fun K kp hK hkp=>?_) |refine rX (id:=19) mixed [8] 9 [0,1,2,3,4,5,6,7,8] (fun K kp hK hkp=>?_));simp(implicitDefEqProofs:=false) (maxSteps:=2000000) (disch:=omega) only[go_sem,zn,hy,eP,Aj,beq_self_eq_true,List.length_append,List.length_cons,List.length_nil,Nat.zero_add,Value.oneCell'];(repeat' (first |(refine hK _ ?_;clear hK hkp kp K) |(with_reducible refine And.intro ?_ ?_) |omega))) |refine A3 rfl ?_))
    ((refine AJ (n+1) ?_ ?_ ?_);rotate_left;(·(try dsimp only);(omega));(·(refine AE hE [0,1,2,3,4,10,6] rfl ?_ ?_<;>simp[AU,AO,lk,ren,renL,A9,AL,eP,hT,Aj]<;>(try omega))))
    omega
   ·have zb:((n:Int)==(at_:Int))=false:=by rw[beq_eq_false_iff_ne];omega
    have hT:=Q0 (x:=up) hna hy;(repeat' (first |refine A0 ?_ |refine A5 ?_ |refine A6 ?_ |((first |refine rR (fun K kp hK hkp=>?_) |refine rX (id:=19) mixed [5] 9 [0,1,2,3,4,5,6,7,8] (fun K kp hK hkp=>?_));simp(implicitDefEqProofs:=false) (maxSteps:=2000000) (disch:=omega) only[go_sem,zn,hy,eP,Aj,zb,Value.oneCell'];(repeat' (first |(refine hK _ ?_;clear hK hkp kp K) |(with_reducible refine And.intro ?_ ?_) |omega))) |refine A3 rfl ?_ |refine A4 rfl ?_))
    ((refine AJ (n+1) ?_ ?_ ?_);rotate_left;(·(try dsimp only);(omega));(·(refine AE hE [0,1,2,3,4,8,6] rfl ?_ ?_<;>simp[AU,AO,lk,ren,renL,A9,AL,eP,hT,Aj]<;>(try omega))))
    omega
  ·have zn:((n:Int)<(p.keys.length:Int))=False:=eq_false (by omega)
   obtain rfl:n=p.keys.length:=by omega
   (repeat' (first |refine A0 ?_ |refine AB ?_ |((refine rR (fun K kp hK hkp=>?_));simp(implicitDefEqProofs:=false) (maxSteps:=2000000) (disch:=omega) only[go_sem,zn,eP,Aj];(repeat' (refine hK _ ?_;clear hK hkp kp K))) |refine A4 rfl ?_));refine hcut _ ?_;(refine AE hE [0,1,2,3,4,5,6] rfl ?_ ?_<;>simp[AU,AO,lk,ren,renL,A9,AL,eP]<;>(try omega))
 obtain⟨q,hqd⟩: ∃q,I6 p at_ up kid=q:=⟨_,rfl⟩;obtain⟨a2,ha2⟩: ∃a2,(if p.leaf then at_ else at_+1)=a2:=⟨_,rfl⟩
 have q1:Bn p.keys at_ up=q.keys:=by rw[←hqd];rfl
 have q2:Bn p.kids a2 kid=q.kids:=by rw[←hqd,←ha2];rfl
 have ha2l:a2≤p.kids.length:=by rw[←ha2,hkl];split<;>omega
 have ql:q.keys.length=p.keys.length+1:=by rw[←q1,Co _ hat]
 have qk:q.kids.length=p.kids.length+1:=by rw[←q2,Co _ ha2l]
 rw[hqd];refine L3 (fx:=⟨[(18,.r (.int .i64 a2)),(16,.p 4 0 0),(13,.r (.int .i64 kid)),(10,.p 2 0 0),(0,.p 0 0 0),(1,.r (.int .i64 i))],[(0,.box 33 [.s 3 0 qs.length,.r (.int .i64 root)]),(3,.lst 131 5 (qs.map eP)),(2,.box 131 (eP p)),(4,.box 131 [.r (.bool p.leaf),.s 5 0 q.keys.length,.s 6 0 0,.ro true 1 (p.high.map AC),.r (.int .i64 p.next)]),(5,.lst 81 1 (q.keys.map Aj)),(6,.lst 3 1 [])],7⟩) ?_ fun K hcut=>?_;rotate_left
 ·have htl:(CK p.keys at_ up p.keys.length).length≤100:=by rw[HT (Nat.le_refl _)];split<;>omega
  have e4:(at_:Int)+1=((at_+1:Nat):Int):=by omega
  by_cases hae:at_=p.keys.length
  ·have zb:((at_:Int)==(p.keys.length:Int))=true:=by rw[hae];exact beq_self_eq_true _
   have hIns:CK p.keys at_ up p.keys.length++[up]=q.keys:=by rw[←q1,hae];exact Lp _ _
   have hEm:(CK p.keys at_ up p.keys.length).map Aj++[[AV.ro true 1 (up.map AC)]]=q.keys.map Aj:=by rw[←hIns,List.map_append];rfl
   have hEl:(CK p.keys at_ up p.keys.length).length+1=q.keys.length:=by rw[←hIns];simp
   cases hlf:p.leaf
   ·obtain rfl:at_+1=a2:=by rw[←ha2,hlf];rfl
    rw[hlf] at hcut;(repeat' (first |refine A0 ?_ |((refine rR (fun K kp hK hkp=>?_));simp(implicitDefEqProofs:=false) (maxSteps:=2000000) (disch:=omega) only[go_sem,zb,eP,hlf,Value.oneCell',e4];(repeat' (first |(refine hK _ ?_;clear hK hkp kp K) |(with_reducible refine And.intro ?_ ?_) |omega))) |refine A3 rfl ?_));refine hcut _ ?_;(refine AE hE [0,1,2,3,4,8,6] rfl ?_ ?_<;>simp[AU,AO,lk,ren,renL,A9,AL,eP,hlf,hEm,hEl]<;>(try omega))
   ·obtain rfl:at_=a2:=by rw[←ha2,hlf];rfl
    rw[hlf] at hcut;(repeat' (first |refine A0 ?_ |refine A6 ?_ |((refine rR (fun K kp hK hkp=>?_));simp(implicitDefEqProofs:=false) (maxSteps:=2000000) (disch:=omega) only[go_sem,zb,eP,hlf,Value.oneCell'];(repeat' (first |(refine hK _ ?_;clear hK hkp kp K) |(with_reducible refine And.intro ?_ ?_) |omega))) |refine A3 rfl ?_ |refine A4 rfl ?_));refine hcut _ ?_;(refine AE hE [0,1,2,3,4,8,6] rfl ?_ ?_<;>simp[AU,AO,lk,ren,renL,A9,AL,eP,hlf,hEm,hEl]<;>(try omega))
  ·have zb:((at_:Int)==(p.keys.length:Int))=false:=by rw[beq_eq_false_iff_ne];omega
   have hIns:CK p.keys at_ up p.keys.length=q.keys:=by rw[←q1];exact Nb (by omega)
   rw[hIns];cases hlf:p.leaf
   ·obtain rfl:at_+1=a2:=by rw[←ha2,hlf];rfl
    rw[hlf] at hcut;(repeat' (first |refine A0 ?_ |refine A6 ?_ |((refine rR (fun K kp hK hkp=>?_));simp(implicitDefEqProofs:=false) (maxSteps:=2000000) (disch:=omega) only[go_sem,zb,eP,hlf,e4];(repeat' (refine hK _ ?_;clear hK hkp kp K))) |refine A3 rfl ?_ |refine A4 rfl ?_));refine hcut _ ?_;(refine AE hE [0,1,2,3,4,5,6] rfl ?_ ?_<;>simp[AU,AO,lk,ren,renL,A9,AL,eP,hlf]<;>(try omega))
   ·obtain rfl:at_=a2:=by rw[←ha2,hlf];rfl
    rw[hlf] at hcut;(repeat' (first |refine A0 ?_ |refine A6 ?_ |((refine rR (fun K kp hK hkp=>?_));simp(implicitDefEqProofs:=false) (maxSteps:=2000000) (disch:=omega) only[go_sem,zb,eP,hlf];(repeat' (refine hK _ ?_;clear hK hkp kp K))) |refine A4 rfl ?_));refine hcut _ ?_;(refine AE hE [0,1,2,3,4,5,6] rfl ?_ ?_<;>simp[AU,AO,lk,ren,renL,A9,AL,eP,hlf]<;>(try omega))
 have q3:p.leaf=q.leaf:=by rw[←hqd];rfl
 have q4:p.high=q.high:=by rw[←hqd];rfl
 have q5:p.next=q.next:=by rw[←hqd];rfl
 clear q1 ha2 hat;(repeat' (first |refine A0 ?_ |refine A5 ?_ |((refine rR (fun K kp hK hkp=>?_));simp(implicitDefEqProofs:=false) (maxSteps:=2000000) (disch:=omega) only[go_sem];(repeat' (refine hK _ ?_;clear hK hkp kp K)))));refine Hn (fx:=⟨[(16,.p 4 0 0),(10,.p 2 0 0),(0,.p 0 0 0),(1,.r (.int .i64 i))],[(0,.box 33 [.s 3 0 qs.length,.r (.int .i64 root)]),(3,.lst 131 5 (qs.map eP)),(2,.box 131 (eP p)),(4,.box 131 (eP q))],5⟩) ?_ fun K hcut=>?_;rotate_left
 ·refine AH (fun n:Nat=>⟨[(19,.r (.int .i64 n)),(18,.r (.int .i64 a2)),(16,.p 4 0 0),(13,.r (.int .i64 kid)),(10,.p 2 0 0),(0,.p 0 0 0),(1,.r (.int .i64 i))],[(0,.box 33 [.s 3 0 qs.length,.r (.int .i64 root)]),(3,.lst 131 5 (qs.map eP)),(2,.box 131 (eP p)),(4,.box 131 [.r (.bool p.leaf),.s 5 0 q.keys.length,.s 6 0 (CK p.kids a2 kid n).length,.ro true 1 (p.high.map AC),.r (.int .i64 p.next)]),(5,.lst 81 1 (q.keys.map Aj)),(6,.lst 3 1 ((CK p.kids a2 kid n).map eI))],7⟩) (fun n=>n≤p.kids.length+1) (fun n=>p.kids.length+1 - n) 0 ?_ ?_ ?_
  ·exact Nat.zero_le _
  ·(refine AE hE [0,1,2,3,4,5,6] rfl ?_ ?_<;>simp[AU,AO,lk,ren,renL,A9,AL,eP,Lo]<;>(try omega))
  intro n hn
  by_cases hnk:n<p.kids.length
  ·have hkl6:p.kids.length≤5:=by rw[hkl];split<;>omega
   have hnl:=HT (i:=a2) (x:=kid) (Nat.le_of_lt hnk)
   have hnl2:(CK p.kids a2 kid n).length≤100:=by rw[hnl];split<;>omega
   have zn:((n:Int)<(p.kids.length:Int))=True:=eq_true (by omega);have zm:((n:Int)≤(p.kids.length:Int))=True:=eq_true (by omega);obtain⟨y,hy⟩: ∃y,p.kids[n]?=some y:=⟨_,List.getElem?_eq_getElem hnk⟩
   by_cases hna:n=a2
   ·subst hna
    have hT:=Q1 (x:=kid) hy;(repeat' (first |refine A0 ?_ |refine A5 ?_ |refine A6 ?_ |((first |refine rR (fun K kp hK hkp=>?_) |refine rX (id:=31) mixed [8] 9 [0,1,2,3,4,5,6,7,8] (fun K kp hK hkp=>?_));simp(implicitDefEqProofs:=false) (maxSteps:=2000000) (disch:=omega) only[go_sem,zn,zm,hy,eP,eI,beq_self_eq_true,List.length_append,List.length_cons,List.length_nil,Nat.zero_add,Value.oneCell'];(repeat' (first |(refine hK _ ?_;clear hK hkp kp K) |(with_reducible refine And.intro ?_ ?_) |omega))) |refine A3 rfl ?_))
    ((refine AJ (n+1) ?_ ?_ ?_);rotate_left;(·(try dsimp only);(omega));(·(refine AE hE [0,1,2,3,4,5,10] rfl ?_ ?_<;>simp[AU,AO,lk,ren,renL,A9,AL,eP,hT,eI]<;>(try omega))))
    omega
   ·have zb:((n:Int)==(a2:Int))=false:=by rw[beq_eq_false_iff_ne];omega
    have hT:=Q0 (x:=kid) hna hy;(repeat' (first |refine A0 ?_ |refine A5 ?_ |refine A6 ?_ |((first |refine rR (fun K kp hK hkp=>?_) |refine rX (id:=31) mixed [6] 9 [0,1,2,3,4,5,6,7,8] (fun K kp hK hkp=>?_));simp(implicitDefEqProofs:=false) (maxSteps:=2000000) (disch:=omega) only[go_sem,zn,zm,hy,eP,eI,zb,Value.oneCell'];(repeat' (first |(refine hK _ ?_;clear hK hkp kp K) |(with_reducible refine And.intro ?_ ?_) |omega))) |refine A3 rfl ?_ |refine A4 rfl ?_))
    ((refine AJ (n+1) ?_ ?_ ?_);rotate_left;(·(try dsimp only);(omega));(·(refine AE hE [0,1,2,3,4,5,8] rfl ?_ ?_<;>simp[AU,AO,lk,ren,renL,A9,AL,eP,hT,eI]<;>(try omega))))
    omega
  ·by_cases hne:n=p.kids.length
   ·subst hne
    have hkl6:p.kids.length≤5:=by rw[hkl];split<;>omega
    have hnl:=HT (l:=p.kids) (i:=a2) (x:=kid) (Nat.le_refl _)
    have hnl2:(CK p.kids a2 kid p.kids.length).length≤100:=by rw[hnl];split<;>omega
    have zn:((p.kids.length:Int)<(p.kids.length:Int))=False:=eq_false (by omega);have zm:((p.kids.length:Int)≤(p.kids.length:Int))=True:=eq_true (by omega)
    by_cases hna:p.kids.length=a2
    ·have zb:((p.kids.length:Int)==(a2:Int))=true:=by rw[hna];exact beq_self_eq_true _
     have hT:CK p.kids a2 kid (p.kids.length+1)=CK p.kids a2 kid p.kids.length++[kid]:=by rw[KR ha2l,←hna,Lp]
     (repeat' (first |refine A0 ?_ |refine A5 ?_ |refine A6 ?_ |((refine rR (fun K kp hK hkp=>?_));simp(implicitDefEqProofs:=false) (maxSteps:=2000000) (disch:=omega) only[go_sem,zn,zm,eP,eI,zb,Value.oneCell'];(repeat' (first |(refine hK _ ?_;clear hK hkp kp K) |(with_reducible refine And.intro ?_ ?_) |omega))) |refine A3 rfl ?_ |refine A4 rfl ?_))
     ((refine AJ (p.kids.length+1) ?_ ?_ ?_);rotate_left;(·(try dsimp only);(omega));(·(refine AE hE [0,1,2,3,4,5,8] rfl ?_ ?_<;>simp[AU,AO,lk,ren,renL,A9,AL,eP,hT,eI]<;>(try omega))))
     omega
    ·have zb:((p.kids.length:Int)==(a2:Int))=false:=by rw[beq_eq_false_iff_ne];omega
     have hT:CK p.kids a2 kid (p.kids.length+1)=CK p.kids a2 kid p.kids.length:=by rw[KR ha2l,Nb (by omega)]
     (repeat' (first |refine A0 ?_ |refine A5 ?_ |refine A6 ?_ |((refine rR (fun K kp hK hkp=>?_));simp(implicitDefEqProofs:=false) (maxSteps:=2000000) (disch:=omega) only[go_sem,zn,zm,eP,eI,zb];(repeat' (refine hK _ ?_;clear hK hkp kp K))) |refine A3 rfl ?_ |refine A4 rfl ?_))
     ((refine AJ (p.kids.length+1) ?_ ?_ ?_);rotate_left;(·(try dsimp only);(omega));(·(refine AE hE [0,1,2,3,4,5,6] rfl ?_ ?_<;>simp[AU,AO,lk,ren,renL,A9,AL,eP,hT,eI]<;>(try omega))))
     omega
   ·obtain rfl:n=p.kids.length+1:=by omega
    have zm:(((p.kids.length+1:Nat):Int)≤(p.kids.length:Int))=False:=eq_false (by omega);rw[KR ha2l,q2];have tk1:(q.keys.map Aj).take q.keys.length=q.keys.map Aj:=List.take_of_length_le (by simp);have tk2:(q.kids.map eI).take q.kids.length=q.kids.map eI:=List.take_of_length_le (by simp);(repeat' (first |refine A0 ?_ |refine AB ?_ |((refine rR (fun K kp hK hkp=>?_));simp(implicitDefEqProofs:=false) (maxSteps:=2000000) (disch:=omega) only[go_sem,zm,eP];(repeat' (refine hK _ ?_;clear hK hkp kp K))) |refine A4 rfl ?_));refine hcut _ ?_;refine Emb.trans (Nz 4 1 rfl rfl (by simp only[II,lk,rm,tk1,List.drop_zero,Nat.zero_add,List.length_map,Nat.le_refl,↓reduceIte,Nat.reduceEqDiff];rfl) rfl) ?_;refine Emb.trans (Nz 4 2 rfl rfl (by simp only[II,lk,rm,Ad,tk2,List.drop_zero,Nat.zero_add,List.length_map,Nat.le_refl,↓reduceIte,Nat.reduceEqDiff];rfl) rfl) ?_;simp only[Ad];(refine AE hE [0,1,2,3,4] rfl ?_ ?_<;>simp[AU,AO,lk,ren,renL,A9,AL,eP,q3,q4,q5]<;>(try omega))
 have hiq:i<qs.length:=(List.getElem?_eq_some_iff.1 hq).1;have zi:((i:Int)<(qs.length:Int))=True:=eq_true (by omega)
 have hqm: ∀(j:Nat)(y:Ky),q.keys[j]?=some y→y.length≤1048576:=fun j y hy=>by
  have hm:=List.mem_of_getElem? hy;rw[←hqd] at hm
  rcases EX hm with rfl |hm
  ·exact hul
  ·exact hkm y hm
 have hkl2:q.kids.length=if q.leaf then q.keys.length else q.keys.length+1:=by
  rw[qk,ql,hkl,q3];split<;>rfl
 have hq5:q.keys.length≤5:=by omega
 have hset: ∀v,(qs.map eP).set i (eP v)=(qs.set i v).map eP:=fun v=>by rw[List.map_set]
 have hsl: ∀v,(qs.set i v).length=qs.length:=fun v=>List.length_set;clear q2 ql qk hqd hkl hkm hul h4 ha2l
 by_cases h4:q.keys.length≤4
 ·have z4:((q.keys.length:Int)≤4)=True:=eq_true (by omega)
  rw[Du,if_pos h4,KS,Eo,hsl];simp only;rw[←hset];(repeat' (first |refine A0 ?_ |((first |refine rR (fun K kp hK hkp=>?_) |refine rD (id:=33) mixed 7 [0,1,2,3,4,5,6] (fun K kp hK hkp=>?_));simp(implicitDefEqProofs:=false) (maxSteps:=2000000) (disch:=omega) only[go_sem,zi,hq,eP,z4];(repeat' (refine hK _ ?_;clear hK hkp kp K))) |refine A3 rfl ?_ |refine A8 ?_));(refine A7 (by(simp(implicitDefEqProofs:=false) (maxSteps:=2000000) (disch:=omega) only[go_sem,results111]);rfl) ?_;refine(Cx hE [0,1,3] rfl ?_ ?_).s<;>simp[AG,AO,lk,ren,renL,A9,AL])
  rfl
 ·have z4:((q.keys.length:Int)≤4)=False:=eq_false (by omega)
  have h5:q.keys.length=5:=by omega
  obtain⟨u,hu⟩: ∃u,q.keys[2]?=some u:=⟨_,List.getElem?_eq_getElem (by omega)⟩
  have hmid:EV q=u:=by rw[EV,List.getD_eq_getElem?_getD,hu];rfl
  have bc:=BT E.G true u (hqm 2 u hu);rw[Du,if_neg h4,hmid,KS,Eo];simp only;refine A0 ?_;refine A0 ?_;(refine rR (fun K kp hK hkp=>?_);simp(implicitDefEqProofs:=false) (maxSteps:=2000000) (disch:=omega) only[go_sem,eP,z4];(repeat' (refine hK _ ?_;clear hK hkp kp K)));refine A4 rfl ?_;refine A6 ?_;refine OK (fx:=⟨[(22,.p 4 0 0),(21,.p 2 0 0),(20,.ro true 1 (u.map AC)),(0,.p 0 0 0),(1,.r (.int .i64 i))],[(0,.box 33 [.s 3 0 qs.length,.r (.int .i64 root)]),(3,.lst 131 5 (qs.map eP)),(2,.box 131 (eP (E0 q u qs.length))),(4,.box 131 (eP (Cj q)))],5⟩) ?_ fun K hcut=>?_;rotate_left
  ·have tk1:(q.keys.map Aj).take 5=q.keys.map Aj:=List.take_of_length_le (by simp[h5])
   cases hlf:q.leaf
   ·have hk5:q.kids.length=6:=by rw[hkl2,hlf,h5];rfl
    have tk2:(q.kids.map eI).take 6=q.kids.map eI:=List.take_of_length_le (by simp[hk5]);(repeat' (first |refine A0 ?_ |((first |refine rR (fun K kp hK hkp=>?_) |refine rU (id:=36) mixed 17 [⟨0,0,[],[(0,1)]⟩,⟨0,0,[0],[(0,1)]⟩,⟨0,0,[],[(0,1)]⟩,⟨0,0,[2],[(0,1)]⟩,⟨0,0,[2,3],[(0,1)]⟩,⟨0,0,[],[(0,1)]⟩,⟨0,0,[5],[(0,1)]⟩,⟨0,0,[5,6],[(0,1)]⟩,⟨0,0,[],[(0,1)]⟩,⟨0,0,[8],[(0,1)]⟩,⟨0,0,[],[(0,1)]⟩,⟨0,0,[10],[(0,1)]⟩,⟨0,0,[10,11],[(0,1)]⟩,⟨0,0,[10,11,12],[(0,1)]⟩,⟨0,0,[10,11,12,13],[(0,1)]⟩,⟨0,0,[0,1,2,3,4,5,6,7,8,9,10,11,12,13,14],[(0,1)]⟩,⟨0,1,[],[]⟩] 1 [166,167,168,169,170,171,172,173,174,175,176,177,178,179,180,181,21] [] (fun K kp hK hkp=>?_) |refine rD (id:=37) mixed 14 [0,1,2,3,4,5,6,7,8,9,10,11,12,13] (fun K kp hK hkp=>?_) |refine cR bc ?_ |refine cU bc ?_);simp(implicitDefEqProofs:=false) (maxSteps:=2000000) (disch:=omega) only[go_sem,hu,h5,hk5,hlf,q3,eP,Aj];(repeat' (refine hK _ ?_;clear hK hkp kp K))) |refine A3 rfl ?_));refine hcut _ ?_;(refine AE hE [0,1,5,3,6] rfl ?_ ?_<;>simp[AU,AO,lk,ren,renL,A9,AL,eP,E0,Cj,hlf,q4,q5,tk1,tk2]<;>(try omega))
   ·have hk5:q.kids.length=5:=by rw[hkl2,hlf,h5];rfl
    have tk2:(q.kids.map eI).take 5=q.kids.map eI:=List.take_of_length_le (by simp[hk5]);(repeat' (first |refine A0 ?_ |refine A6 ?_ |((first |refine rR (fun K kp hK hkp=>?_) |refine rU (id:=36) mixed 17 [⟨0,0,[],[(0,1)]⟩,⟨0,0,[0],[(0,1)]⟩,⟨0,0,[],[(0,1)]⟩,⟨0,0,[2],[(0,1)]⟩,⟨0,0,[2,3],[(0,1)]⟩,⟨0,0,[],[(0,1)]⟩,⟨0,0,[5],[(0,1)]⟩,⟨0,0,[5,6],[(0,1)]⟩,⟨0,0,[],[(0,1)]⟩,⟨0,0,[8],[(0,1)]⟩,⟨0,0,[],[(0,1)]⟩,⟨0,0,[10],[(0,1)]⟩,⟨0,0,[10,11],[(0,1)]⟩,⟨0,0,[10,11,12],[(0,1)]⟩,⟨0,0,[10,11,12,13],[(0,1)]⟩,⟨0,0,[0,1,2,3,4,5,6,7,8,9,10,11,12,13,14],[(0,1)]⟩,⟨0,1,[],[]⟩] 1 [166,167,168,169,170,171,172,173,174,175,176,177,178,179,180,181,21] [] (fun K kp hK hkp=>?_) |refine rD (id:=37) mixed 14 [0,1,2,3,4,5,6,7,8,9,10,11,12,13] (fun K kp hK hkp=>?_) |refine cR bc ?_ |refine cU bc ?_);simp(implicitDefEqProofs:=false) (maxSteps:=2000000) (disch:=omega) only[go_sem,hu,h5,hk5,hlf,q3,eP,Aj];(repeat' (refine hK _ ?_;clear hK hkp kp K))) |refine A4 rfl ?_));refine hcut _ ?_;(refine AE hE [0,1,5,3,6] rfl ?_ ?_<;>simp[AU,AO,lk,ren,renL,A9,AL,eP,E0,Cj,hlf,q4,q5,tk1,tk2]<;>(try omega))
  have hsp:D1 qs i q=qs.set i (E0 q u qs.length)++[Cj q]:=by rw[D1,hmid]
  have e1:((qs.length+1:Nat):Int) - 1=(qs.length:Int):=by omega
  have hspl:(qs.set i (E0 q u qs.length)++[Cj q]).length=qs.length+1:=by simp
  rw[hsp,hspl];generalize E0 q u qs.length=ql at *;generalize Cj q=qr at *;clear hu bc hmid hsp hq5 hkl2 hqm q3 q4 q5;simp only[eP];refine A0 ?_;(refine rD (id:=42) mixed 7 [0,1,2,3,4,5,6] (fun K kp hK hkp=>?_);simp(implicitDefEqProofs:=false) (maxSteps:=2000000) (disch:=omega) only[go_sem,zi,hq,eP];(repeat' (refine hK _ ?_;clear hK hkp kp K)));have hset:=hset ql;have hsl:=hsl ql;simp only[eP] at hset;rw[hset];generalize qs.set i ql=us at *;refine A0 ?_;(refine rF (id:=43) mixed 7 [0] [1,2,3,4,5,6] (fun K kp hK hkp=>?_);simp(implicitDefEqProofs:=false) (maxSteps:=2000000) (disch:=omega) only[go_sem,hsl,eP];(repeat' (first |(refine hK _ ?_;clear hK hkp kp K) |(with_reducible refine And.intro ?_ ?_) |omega)));(repeat' (first |refine A0 ?_ |((refine rD (id:=44) mixed 9 [0,1,2,3,4,5,6,7,8] (fun K kp hK hkp=>?_));simp(implicitDefEqProofs:=false) (maxSteps:=2000000) (disch:=omega) only[go_sem,e1];(repeat' (refine hK _ ?_;clear hK hkp kp K))) |refine A8 ?_));(refine A7 (by(simp(implicitDefEqProofs:=false) (maxSteps:=2000000) (disch:=omega) only[go_sem,results111,eP]);rfl) ?_;refine(Cx hE [0,1,6] rfl ?_ ?_).s<;>simp[AG,AO,lk,ren,renL,A9,AL,eP]);exact List.take_of_length_le (by simp[hsl])
end Go.AM
namespace Go.AM
open Go Go.RowKit
attribute [local irreducible] AWP Aw
set_option maxHeartbeats 4000000 in
theorem NA (G:List (Nat×List Value))(t:Bool)(ps:List PG)(root:Int)(ho:BG ps):Con prog G 37 [.agg [.ro t 5 (ps.map eP),.r (.int .i64 root)]] [] 0 (Is (.agg [.s 0 0 ps.length,.r (.int .i64 root)]) [(0,.ul 131 5 (ps.map uP) [])] 1) No:=by
 have hn:=ho.1;refine AA func37 rfl (by kernel_rfl) (of_decide_eq_true (by kernel_rfl)) ?_;intro E hG hE;subst hG;simp only[B9];(repeat' (first |refine A0 ?_ |refine A5 ?_ |((refine rR (fun K kp hK hkp=>?_));simp(implicitDefEqProofs:=false) (maxSteps:=2000000) (disch:=omega) only[go_sem,eP];(repeat' (refine hK _ ?_;clear hK hkp kp K)))));(refine AWP.emb (BD 2 0 131 5 rfl rfl (by simp)) ?_;simp only[List.set_cons_zero,List.set_cons_succ,lk,↓reduceIte,Nat.reduceAdd]);(refine AWP.emb (BY (T:=?z1T) (k:=?z1k) (els:=?z1e) 3 ?z1h) ?z1g;(case z1h=>rfl);simp only[Ad]);refine AH (fun i:Nat=>⟨[(4,.r (.int .i64 i)),(3,.p 2 0 0),(2,.p 1 0 0),(1,.p 0 0 0)],[(0,.box 33 [.ro t 5 (ps.map eP),.r (.int .i64 root)]),(1,.box 33 [.r (.slice none 0 0),.r (.int .i64 0)]),(2,.box 33 [.s 3 0 i,.r (.int .i64 root)]),(3,.ul 131 5 ((ps.take i).map uP) [])],4⟩) (fun i=>i≤ps.length) (fun i=>ps.length - i) 0 ?_ ?_ ?_
 ·exact Nat.zero_le _
 ·(refine AE hE [0,1,2,3] rfl ?_ ?_<;>simp[AU,AO,lk,ren,renL,A9,AL,AK]<;>(try omega))
 intro i hi
 by_cases hlt:i<ps.length
 ·have zi:((i:Int)<(ps.length:Int))=True:=eq_true (by omega)
  obtain⟨p,hp⟩: ∃p,ps[i]?=some p:=⟨ps[i],by simp[hlt]⟩;obtain⟨h1,h2,h3,h4⟩:=ho.2 p (List.mem_of_getElem? hp);have bc:=BT E.G true p.high h3;(repeat' (first |refine A0 ?_ |refine A5 ?_ |refine A6 ?_ |((first |refine rR (fun K kp hK hkp=>?_) |refine rU (id:=6) mixed 9 [⟨0,0,[],[(0,1)]⟩,⟨0,0,[0],[(0,1)]⟩,⟨0,0,[],[(0,1)]⟩,⟨0,0,[2],[(0,1)]⟩,⟨0,0,[2,3],[(0,1)]⟩,⟨0,0,[],[(0,1)]⟩,⟨0,0,[5],[(0,1)]⟩,⟨0,0,[0,1,2,3,4,5,6],[(0,1)]⟩,⟨0,1,[],[]⟩] 1 [25,26,27,28,29,30,31,32,6] [] (fun K kp hK hkp=>?_) |refine cU bc ?_);simp(implicitDefEqProofs:=false) (maxSteps:=2000000) (disch:=omega) only[go_sem,zi,hp,eP];(repeat' (refine hK _ ?_;clear hK hkp kp K))) |refine A3 rfl ?_));(refine AWP.emb (BD 5 1 81 1 rfl rfl (by simp)) ?_;simp only[List.set_cons_zero,List.set_cons_succ,lk,↓reduceIte,Nat.reduceAdd]);(refine AWP.emb (BD 5 2 3 1 rfl rfl (by simp)) ?_;simp only[List.set_cons_zero,List.set_cons_succ,lk,↓reduceIte,Nat.reduceAdd]);refine AH (fun k:Nat=>⟨[(7,.r (.int .i64 k)),(6,.p 5 0 0),(5,.p 4 0 0),(4,.r (.int .i64 i)),(3,.p 2 0 0),(2,.p 1 0 0),(1,.p 0 0 0)],[(0,.box 33 [.ro t 5 (ps.map eP),.r (.int .i64 root)]),(1,.box 33 [.r (.slice none 0 0),.r (.int .i64 0)]),(2,.box 33 [.s 3 0 i,.r (.int .i64 root)]),(3,.ul 131 5 ((ps.take i).map uP) []),(4,.box 131 (eP p)),(5,.box 131 [.r (.bool p.leaf),.s 6 0 (k),.s 7 0 (0),.ro true 1 (p.high.map AC),.r (.int .i64 p.next)]),(6,.lst 81 1 ((p.keys.take k).map Aj)),(7,.lst 3 1 [])],8⟩) (fun k=>k≤p.keys.length) (fun k=>p.keys.length - k) 0 ?_ ?_ ?_
  ·exact Nat.zero_le _
  ·(refine AE hE [0,1,2,3,4,5,6,7] rfl ?_ ?_<;>simp[AU,AO,lk,ren,renL,A9,AL,eP,AK]<;>(try omega))
  intro k hk
  by_cases hkl:k<p.keys.length
  ·have zk:((k:Int)<(p.keys.length:Int))=True:=eq_true (by omega)
   obtain⟨x,hx⟩: ∃x,p.keys[k]?=some x:=⟨p.keys[k],by simp[hkl]⟩;have xc:=BT E.G true x (h4 x (List.mem_of_getElem? hx))
   have htk:p.keys.take (k+1)=p.keys.take k++[x]:=by rw[List.take_add_one,hx];rfl
   have hl:(p.keys.take k).length=k:=by rw[List.length_take];omega
   (repeat' (first |refine A0 ?_ |refine A5 ?_ |refine A6 ?_ |((first |refine rR (fun K kp hK hkp=>?_) |refine cR xc ?_);simp(implicitDefEqProofs:=false) (maxSteps:=2000000) (disch:=omega) only[go_sem,zk,hx,eP,Aj,hl,Value.oneCell'];(repeat' (first |(refine hK _ ?_;clear hK hkp kp K) |(with_reducible refine And.intro ?_ ?_) |omega))) |refine A3 rfl ?_))
   ((refine AJ (k+1) ?_ ?_ ?_);rotate_left;(·(try dsimp only);(omega));(·(refine AE hE [0,1,2,3,4,5,9,7] rfl ?_ ?_<;>simp[AU,AO,lk,ren,renL,A9,AL,AK,htk,Aj,eP,List.take_take,Nat.min_self]<;>(try omega))))
   omega
  ·obtain rfl:k=p.keys.length:=by omega
   rw[List.take_length];(repeat' (first |refine A0 ?_ |refine A5 ?_ |refine AB ?_ |((refine rR (fun K kp hK hkp=>?_));simp(implicitDefEqProofs:=false) (maxSteps:=2000000) (disch:=omega) only[go_sem,eP];(repeat' (refine hK _ ?_;clear hK hkp kp K))) |((refine AD rfl (fun h=>?_) (fun h=>?_)<;>try simp only[BQ] at h)<;>(try (exfalso;omega)))));refine AH (fun k:Nat=>⟨[(9,.r (.int .i64 k)),(6,.p 5 0 0),(5,.p 4 0 0),(4,.r (.int .i64 i)),(3,.p 2 0 0),(2,.p 1 0 0),(1,.p 0 0 0)],[(0,.box 33 [.ro t 5 (ps.map eP),.r (.int .i64 root)]),(1,.box 33 [.r (.slice none 0 0),.r (.int .i64 0)]),(2,.box 33 [.s 3 0 i,.r (.int .i64 root)]),(3,.ul 131 5 ((ps.take i).map uP) []),(4,.box 131 (eP p)),(5,.box 131 [.r (.bool p.leaf),.s 6 0 (p.keys.length),.s 7 0 (k),.ro true 1 (p.high.map AC),.r (.int .i64 p.next)]),(6,.lst 81 1 (p.keys.map Aj)),(7,.lst 3 1 ((p.kids.take k).map eI))],8⟩) (fun k=>k≤p.kids.length) (fun k=>p.kids.length - k) 0 ?_ ?_ ?_
   ·exact Nat.zero_le _
   ·(refine AE hE [0,1,2,3,4,5,6,7] rfl ?_ ?_<;>simp[AU,AO,lk,ren,renL,A9,AL,eP,AK]<;>(try omega))
   intro k hk
   by_cases hkl:k<p.kids.length
   ·have zk:((k:Int)<(p.kids.length:Int))=True:=eq_true (by omega)
    obtain⟨x,hx⟩: ∃x,p.kids[k]?=some x:=⟨p.kids[k],by simp[hkl]⟩
    have htk:p.kids.take (k+1)=p.kids.take k++[x]:=by rw[List.take_add_one,hx];rfl
    have hl:(p.kids.take k).length=k:=by rw[List.length_take];omega
    (repeat' (first |refine A0 ?_ |refine A5 ?_ |refine A6 ?_ |((first |refine rR (fun K kp hK hkp=>?_) |refine rX (id:=15) mixed [7] 9 [0,1,2,3,4,5,6,7,8] (fun K kp hK hkp=>?_));simp(implicitDefEqProofs:=false) (maxSteps:=2000000) (disch:=omega) only[go_sem,zk,hx,eP,eI,hl,Value.oneCell'];(repeat' (first |(refine hK _ ?_;clear hK hkp kp K) |(with_reducible refine And.intro ?_ ?_) |omega))) |refine A3 rfl ?_))
    ((refine AJ (k+1) ?_ ?_ ?_);rotate_left;(·(try dsimp only);(omega));(·(refine AE hE [0,1,2,3,4,5,6,9] rfl ?_ ?_<;>simp[AU,AO,lk,ren,renL,A9,AL,AK,htk,eI,eP,List.take_take,Nat.min_self]<;>(try omega))))
    omega
   ·obtain rfl:k=p.kids.length:=by omega
    rw[List.take_length]
    have hl:(ps.take i).length=i:=by rw[List.length_take];omega
    have ht:ps.take (i+1)=ps.take i++[p]:=by rw[List.take_add_one,hp];rfl
    (refine AWP.emb (BY (T:=?z2T) (k:=?z2k) (els:=?z2e) 6 ?z2h) ?z2g;(case z2h=>rfl);simp only[Ad]);(refine AWP.emb (BY (T:=?z3T) (k:=?z3k) (els:=?z3e) 7 ?z3h) ?z3g;(case z3h=>rfl);simp only[Ad])
    have hll:((ps.take i).map uP).length=i:=by rw[List.length_map,hl]
    have hs3:((ps.take i).map uP++[uP p])=(ps.take (i+1)).map uP:=by rw[ht,List.map_append];rfl
    (repeat' (first |refine A0 ?_ |refine AB ?_ |((refine rR (fun K kp hK hkp=>?_));simp(implicitDefEqProofs:=false) (maxSteps:=2000000) (disch:=omega) only[go_sem,eP,hl,ne_eq,reduceCtorEq,not_false_eq_true,Option.some.injEq,Nat.reduceEqDiff];(repeat' (first |(refine hK _ ?_;clear hK hkp kp K) |(with_reducible refine And.intro ?_ ?_) |omega))) |((refine AD rfl (fun h=>?_) (fun h=>?_)<;>try simp only[BQ] at h)<;>(try (exfalso;omega)))));refine AJ (i+1) ?_ ?_ ?_
    ·show i+1≤ps.length
     omega
    ·show ps.length - (i+1)<ps.length - i
     omega
    have htk1:(p.keys.map Aj).take p.keys.length=p.keys.map Aj:=List.take_of_length_le (by simp);have htk2:(p.kids.map eI).take p.kids.length=p.kids.map eI:=List.take_of_length_le (by simp);(refine Emb.trans (Ay (T:=?z4T) (k:=?z4k) (els:=?z4e) (T':=?z4T1) (k':=?z4k1) (els':=?z4e1) (op:=?z4op) (e:=?z4ee) (m:=?z4m) (lo:=?z4lo) (len:=?z4len) 9 i 1 ?z4h ?z4ho ?z4hm ?z4hn ?z4hl ?z4he ?z4hj) ?z4g;(case z4h=>rfl);(case z4he=>exact IY _ hll);(case z4ho=>(simp only[CN,and_self,if_true,↓reduceIte,List.length_map,htk1,B3 _ _ hll,true_and,Nat.reduceLeDiff,Nat.reduceAdd,Nat.lt_irrefl,and_false];rfl));(case z4hm=>rfl);(case z4hn=>simp);(case z4hl=>simp[List.length_map,htk1,B3 _ _ hll,true_and,Nat.reduceLeDiff,Nat.reduceAdd,Nat.lt_irrefl,and_false]);(case z4hj=>simp[List.length_map,htk1,B3 _ _ hll,true_and,Nat.reduceLeDiff,Nat.reduceAdd,Nat.lt_irrefl,and_false]);simp only[rm,Gu,and_self,Nat.le_refl,Nat.zero_add,Nat.lt_add_one,Nat.reduceLT,Nat.reduceEqDiff,↓reduceIte,if_true,List.drop_zero,List.set_cons_zero,List.set_cons_succ,List.length_map,htk1,B3 _ _ hll,true_and,Nat.reduceLeDiff,Nat.reduceAdd,Nat.lt_irrefl,and_false]);(refine Emb.trans (Ay (T:=?z5T) (k:=?z5k) (els:=?z5e) (T':=?z5T1) (k':=?z5k1) (els':=?z5e1) (op:=?z5op) (e:=?z5ee) (m:=?z5m) (lo:=?z5lo) (len:=?z5len) 9 i 2 ?z5h ?z5ho ?z5hm ?z5hn ?z5hl ?z5he ?z5hj) ?z5g;(case z5h=>rfl);(case z5he=>exact IY _ hll);(case z5ho=>(simp only[CN,and_self,if_true,↓reduceIte,List.length_map,htk2,B3 _ _ hll,true_and,Nat.reduceLeDiff,Nat.reduceAdd,Nat.lt_irrefl,and_false];rfl));(case z5hm=>rfl);(case z5hn=>simp);(case z5hl=>simp[List.length_map,htk2,B3 _ _ hll,true_and,Nat.reduceLeDiff,Nat.reduceAdd,Nat.lt_irrefl,and_false]);(case z5hj=>simp[List.length_map,htk2,B3 _ _ hll,true_and,Nat.reduceLeDiff,Nat.reduceAdd,Nat.lt_irrefl,and_false]);simp only[rm,Gu,and_self,Nat.le_refl,Nat.zero_add,Nat.lt_add_one,Nat.reduceLT,Nat.reduceEqDiff,↓reduceIte,if_true,List.drop_zero,List.set_cons_zero,List.set_cons_succ,List.length_map,htk2,B3 _ _ hll,true_and,Nat.reduceLeDiff,Nat.reduceAdd,Nat.lt_irrefl,and_false]);change Emb _ _ ⟨_,(9,.ul _ _ (_++[uP p]) _)::_,_⟩ _;rw[hs3];(refine AE hE [0,1,2,9] rfl ?_ ?_<;>simp[AU,AO,lk,ren,renL,A9,AL,AK]<;>(try omega))
 ·obtain rfl:i=ps.length:=by omega
  rw[List.take_length];(repeat' (first |refine A0 ?_ |refine AB ?_ |((refine rR (fun K kp hK hkp=>?_));simp(implicitDefEqProofs:=false) (maxSteps:=2000000) (disch:=omega) only[go_sem];(repeat' (refine hK _ ?_;clear hK hkp kp K))) |((refine AD rfl (fun h=>?_) (fun h=>?_)<;>try simp only[BQ] at h)<;>(try (exfalso;omega))) |refine A8 ?_));(refine A7 (by(simp(implicitDefEqProofs:=false) (maxSteps:=2000000) (disch:=omega) only[go_sem,results37,AK]);rfl) ?_;refine(Cx hE [3] rfl ?_ ?_).s<;>simp[AG,AO,lk,ren,renL,A9,AL,AK])
end Go.AM
namespace Go.AM
open Go Go.RowKit
attribute [local irreducible] AWP Aw
theorem L9 (ps:List PG)(k:Ky)(row:Int): ∀(d i:Nat),(C3 ps k row d i).1.length≤ps.length+d+1∧ps.length≤(C3 ps k row d i).1.length
 |0,i=>by
  have:=Pq ps i (I6 (pg ps i) (AN (pg ps i) k) k row)
  rw[C3];split at this<;>omega
 |d+1,i=>by
  have h:=L9 ps k row d (Bq ps k i);rw[C3]
  cases he:(C3 ps k row d (Bq ps k i)).2 with
  |none=>simp only;omega
  |some x=>
   obtain⟨up,n⟩:=x;have:=Pq (C3 ps k row d (Bq ps k i)).1 i (I6 (pg ps i) (AN (pg ps i) k) up n);simp only
   split at this<;>omega
theorem JQ {ps:List PG}(hp:Bt ps)(i:Nat){y:Ky}(hy:y ∈ (pg ps i).keys):y≠[]∧y.length≤100:=by
 by_cases h:i<ps.length
 ·have hok:=HB hp h
  obtain⟨j,hj⟩:=List.mem_iff_getElem?.1 hy;have:=(hok.ks j (List.getElem?_eq_some_iff.1 hj).1).1;rw[List.getD_eq_getElem?_getD,hj,Option.getD_some,DM,Bool.and_eq_true,decide_eq_true_eq,decide_eq_true_eq] at this;exact⟨E1 hok hy,by omega⟩
 ·have:pg ps i=default:=by rw[pg,List.getD_eq_getElem?_getD,List.getElem?_eq_none (by omega)];rfl
  rw[this] at hy;cases hy
theorem S6 {ps:List PG}(hp:Bt ps){qs:List PG}{i a:Nat}{up:Ky}{kid:Int}(hu:up≠[]∧up.length≤100){u:Ky}{n:Int}(h:(Du qs i (I6 (pg ps i) a up kid)).2=some (u,n)):u≠[]∧u.length≤100:=by
 unfold Du at h;split at h
 ·cases h
 ·rename_i hl
  have hm:=JS hl
  obtain⟨rfl,_⟩:EV _=u∧_:=by simpa using h
  rcases EX hm with e |hm
  ·rw[e];exact hu
  ·exact JQ hp i hm
theorem Hq {ps:List PG}(hp:Bt ps){k:Ky}(hk:k≠[]∧k.length≤100)(row:Int): ∀(d i:Nat)(u:Ky)(n:Int),(C3 ps k row d i).2=some (u,n)→u≠[]∧u.length≤100
 |0,i,u,n,h=>S6 hp hk h
 |d+1,i,u,n,h=>by
  rw[C3] at h
  cases he:(C3 ps k row d (Bq ps k i)).2 with
  |none=>rw[he] at h;cases h
  |some x=>
   obtain⟨up,m⟩:=x;rw[he] at h;exact S6 hp (Hq hp hk row d _ up m he) h
def LJ (p:PG):Prop:=p.keys.length≤1048576∧p.kids.length≤1048576∧p.high.length≤1048576∧ ∀k ∈ p.keys,k.length≤1048576
theorem S7 {qs:List PG}{i:Nat}{q:PG}(h: ∀p ∈ qs,LJ p)(hq:LJ q): ∀p ∈ (Du qs i q).1,LJ p:=by
 unfold Du;split
 ·intro p hp
  rcases List.mem_or_eq_of_mem_set hp with hp |rfl
  ·exact h p hp
  ·exact hq
 ·rename_i hl
  intro p hp
  rcases List.mem_append.1 hp with hp |hp
  ·rcases List.mem_or_eq_of_mem_set hp with hp |rfl
   ·exact h p hp
   ·exact⟨Nat.le_trans (List.length_take_le' ..) hq.1,Nat.le_trans (List.length_take_le' ..) hq.2.1,hq.2.2.2 _ (JS hl),fun k hk=>hq.2.2.2 k (List.mem_of_mem_take hk)⟩
  ·obtain rfl:=List.mem_singleton.1 hp
   refine⟨?_,?_,hq.2.2.1,fun k hk=>hq.2.2.2 k (List.mem_of_mem_drop hk)⟩
   ·have:=hq.1;simp only[Cj,List.length_drop];omega
   ·have:=hq.2.1;simp only[Cj,List.length_drop];omega
theorem S3 {ps:List PG}(hp:Bt ps)(i a:Nat){up:Ky}(kid:Int)(hu:up.length≤100):LJ (I6 (pg ps i) a up kid):=by
 have hl: ∀ {α:Type}(l:List α)(j:Nat)(x:α),(Bn l j x).length≤l.length+1:=fun l j x=>by
  unfold Bn;rw[List.length_append,List.length_cons,List.length_take,List.length_drop];omega
 have hp4:(pg ps i).keys.length≤4∧(pg ps i).kids.length≤5∧(pg ps i).high.length≤100:=by
  by_cases h:i<ps.length
  ·have hok:=HB hp h
   refine⟨hok.nk,?_,hok.nh⟩;have:=hok.nk;cases hlf:(pg ps i).leaf
   ·have:=hok.ki hlf;omega
   ·have:=hok.kl hlf;omega
  ·have:pg ps i=default:=by rw[pg,List.getD_eq_getElem?_getD,List.getElem?_eq_none (by omega)];rfl
   rw[this];exact⟨Nat.zero_le _,Nat.zero_le _,Nat.zero_le _⟩
 refine⟨Nat.le_trans (hl _ _ _) (by omega),Nat.le_trans (hl _ _ _) (by omega),Nat.le_trans hp4.2.2 (by omega),fun k hk=>?_⟩
 rcases EX hk with e |hk
 ·rw[e];omega
 ·have:=(JQ hp i hk).2;omega
theorem My {ps:List PG}(hp:Bt ps)(ho: ∀p ∈ ps,LJ p){k:Ky}(hk:k≠[]∧k.length≤100)(row:Int): ∀(d i:Nat),∀p ∈ (C3 ps k row d i).1,LJ p
 |0,i=>S7 ho (S3 hp i _ row hk.2)
 |d+1,i=>by
  have ih:=My hp ho hk row d (Bq ps k i);rw[C3]
  cases he:(C3 ps k row d (Bq ps k i)).2 with
  |none=>exact ih
  |some x=>
   obtain⟨up,m⟩:=x;exact S7 ih (S3 hp i _ m (Hq hp hk row d _ up m he).2)
set_option maxHeartbeats 4000000 in
theorem Pf (G:List (Nat×List Value))(t:Bool)(ps qs:List PG)(root:Int)(i:Nat)(p:PG)(k:Ky)(row:Int)(hp:ps[i]?=some p)(h4:p.keys.length≤4)(hk:k.length≤1048576)(at_:Nat)(hat:at_≤p.keys.length)(hlo: ∀(j:Nat)(x:Ky),j<at_→p.keys[j]?=some x→B4 k x=false)(hhi: ∀x,p.keys[at_]?=some x→B4 k x=true)(hlf:p.leaf=false)
  (c:Nat) (hc:p.kids[at_]?=some (c:Int)) (IH:Con prog G 111 [.p 0 0 0,.r (.int .i64 c),.ro t 1 (k.map AC),.r (.int .i64 row)] (Eo root 1 ps) 2 (Is (KS (qs,none)) (Eo root 2 qs) 3) No):
  Con prog G 111 [.p 0 0 0,.r (.int .i64 i),.ro t 1 (k.map AC),.r (.int .i64 row)] (Eo root 1 ps) 2 (Is (KS (qs,none)) (Eo root 2 qs) 3) No:=by
 have hi:i<ps.length:=(List.getElem?_eq_some_iff.1 hp).1;have zi:((i:Int)<(ps.length:Int))=True:=eq_true (by omega);have zc:((at_:Int)<(p.kids.length:Int))=True:=eq_true (by have:=(List.getElem?_eq_some_iff.1 hc).1;omega);have bc:=BT G t k hk;rw[Eo,Eo,KS] at *;simp only at IH ⊢;refine AA func111 rfl (by kernel_rfl) (of_decide_eq_true (by kernel_rfl)) ?_;intro E hG hE;subst hG;simp only[B9];(repeat' (first |refine A0 ?_ |refine A5 ?_ |((refine rR (fun K kp hK hkp=>?_));simp(implicitDefEqProofs:=false) (maxSteps:=2000000) (disch:=omega) only[go_sem,zi,hp,eP];(repeat' (refine hK _ ?_;clear hK hkp kp K)))));refine Hn (fx:=⟨[(11,.r (.int .i64 at_)),(10,.p 2 0 0),(9,.r (.int .i64 0)),(8,.r (.slice none 0 0)),(0,.p 0 0 0),(1,.r (.int .i64 i)),(2,.ro t 1 (k.map AC)),(3,.r (.int .i64 row))],[(0,.box 33 [.s 1 0 ps.length,.r (.int .i64 root)]),(1,.lst 131 5 (ps.map eP)),(2,.box 131 (eP p))],3⟩) ?_ fun K hcut=>?_;rotate_left
 ·refine AH (fun j:Nat=>⟨[(11,.r (.int .i64 j)),(10,.p 2 0 0),(9,.r (.int .i64 0)),(8,.r (.slice none 0 0)),(0,.p 0 0 0),(1,.r (.int .i64 i)),(2,.ro t 1 (k.map AC)),(3,.r (.int .i64 row))],[(0,.box 33 [.s 1 0 ps.length,.r (.int .i64 root)]),(1,.lst 131 5 (ps.map eP)),(2,.box 131 (eP p))],3⟩) (fun j=>j≤at_) (fun j=>at_ - j) 0 ?_ ?_ ?_
  ·exact Nat.zero_le _
  ·(refine AE hE [0,1,2] rfl ?_ ?_<;>simp[AU,AO,lk,ren,renL,A9,AL,eP]<;>(try omega))
  intro j hj
  by_cases hjl:j<p.keys.length
  ·have zj:((j:Int)<(p.keys.length:Int))=True:=eq_true (by omega)
   obtain⟨x,hx⟩: ∃x,p.keys[j]?=some x:=⟨_,List.getElem?_eq_getElem hjl⟩;have kb:=C5 E.G t true k x
   by_cases hja:j<at_
   ·have hb:Op.bytesLess k x=false:=hlo j x hja hx
    rw[hb] at kb;(repeat' (first |refine A0 ?_ |refine A5 ?_ |refine A6 ?_ |((first |refine rR (fun K kp hK hkp=>?_) |refine cR kb ?_);simp(implicitDefEqProofs:=false) (maxSteps:=2000000) (disch:=omega) only[go_sem,zj,hx,eP,Aj];(repeat' (refine hK _ ?_;clear hK hkp kp K))) |refine A3 rfl ?_))
    ((refine Im (j+1) ?_ ?_ ?_);rotate_left;(·(try dsimp only);(omega));(·(refine AE hE [0,1,2] rfl ?_ ?_<;>simp[AU,AO,lk,ren,renL,A9,AL,eP]<;>(try omega))))
    omega
   ·obtain rfl:j=at_:=by omega
    have hb:Op.bytesLess k x=true:=hhi x hx;rw[hb] at kb;(repeat' (first |refine A0 ?_ |refine AB ?_ |((first |refine rR (fun K kp hK hkp=>?_) |refine cR kb ?_);simp(implicitDefEqProofs:=false) (maxSteps:=2000000) (disch:=omega) only[go_sem,zj,hx,eP,Aj];(repeat' (refine hK _ ?_;clear hK hkp kp K))) |refine A4 rfl ?_));refine hcut _ ?_;(refine AE hE [0,1,2] rfl ?_ ?_<;>simp[AU,AO,lk,ren,renL,A9,AL,eP]<;>(try omega))
  ·have zj:((j:Int)<(p.keys.length:Int))=False:=eq_false (by omega)
   obtain rfl:j=at_:=by omega
   (repeat' (first |refine A0 ?_ |refine AB ?_ |((refine rR (fun K kp hK hkp=>?_));simp(implicitDefEqProofs:=false) (maxSteps:=2000000) (disch:=omega) only[go_sem,zj,eP,Aj];(repeat' (refine hK _ ?_;clear hK hkp kp K))) |refine A4 rfl ?_));refine hcut _ ?_;(refine AE hE [0,1,2] rfl ?_ ?_<;>simp[AU,AO,lk,ren,renL,A9,AL,eP]<;>(try omega))
 (repeat' (first |refine A0 ?_ |((first |refine rR (fun K kp hK hkp=>?_) |refine cR bc ?_);simp(implicitDefEqProofs:=false) (maxSteps:=2000000) (disch:=omega) only[go_sem,hlf,eP,zc,hc,eI];(repeat' (refine hK _ ?_;clear hK hkp kp K))) |refine A3 rfl ?_));(refine C6 [0,1] (IH) ?_ ?_ ?_ ?_ ?_ ?_ ?_ ?_ rfl rfl ?_;(·simp[Em,JG,Mg,Ee,CA,FK,lk,hlf,AK]);(·simp[AO,lk,A9,renL,ren,AL,hlf,AK]);(·(intro i hi;simp only[List.length_cons,List.length_nil] at hi;repeat' (first |omega |exact⟨_,rfl⟩ |(rcases i with _ |i))));(·simp);(·simp);(·simp);(·simp[hlf,AK]);(·simp[hlf,AK]);simp only[CJ,fw,LC,rm,List.map_cons,List.map_nil,List.foldl_cons,List.foldl_nil,List.getElem?_cons_zero,List.getElem?_cons_succ,List.getElem?_nil,List.length_cons,List.length_nil,Nat.zero_add,Nat.sub_self,Nat.add_zero,↓reduceIte,Nat.reduceEqDiff,reduceCtorEq,Nat.reduceAdd,Nat.reduceSub,List.cons_append,List.nil_append,ren,renL,A9,hlf,AK];simp(implicitDefEqProofs:=false) (maxSteps:=2000000) (disch:=omega) only[go_sem,hlf,AK];(repeat' (refine hK _ ?_;clear hK hkp kp K)));(repeat' (first |refine A0 ?_ |((refine rR (fun K kp hK hkp=>?_));simp(implicitDefEqProofs:=false) (maxSteps:=2000000) (disch:=omega) only[go_sem,hlf];(repeat' (refine hK _ ?_;clear hK hkp kp K))) |refine A3 rfl ?_ |refine A8 ?_));(refine A7 (by(simp(implicitDefEqProofs:=false) (maxSteps:=2000000) (disch:=omega) only[go_sem,results111]);rfl) ?_;refine(Cx hE [0,1,3] rfl ?_ ?_).s<;>simp[AG,AO,lk,ren,renL,A9,AL])
theorem M5 (G:List (Nat×List Value))(t:Bool){ps:List PG}(hp:Bt ps)(hin: ∀i x,x ∈ AI ps i→x<ps.length)(hn:ps.length≤4000)(root:Int)(k:Ky)(row:Int)(hk:k≠[]∧k.length≤100): ∀(d i:Nat)(low high:Ky),CU ps d i low high→i<ps.length→d≤4000→B4 k low=false→(high=[]∨B4 k high=true)→Bu (pg ps (BH ps k d i)) k=false→
  Con prog G 111 [.p 0 0 0,.r (.int .i64 i),.ro t 1 (k.map AC),.r (.int .i64 row)] (Eo root 1 ps) 2 (Is (KS (C3 ps k row d i)) (Eo root 2 (C3 ps k row d i).1) 3) No
 |0,i,low,high,hg,hil,hd,h1,h2,ht=>by
  have hok:=HB hp hil;have hlf:=hg.1;have ht:Bu (pg ps i) k=false:=ht;rw[C3];refine L6 G t ps ps root i (pg ps i) k k row row (DR hil) (DR hil) (by omega) (by omega) hok.nk (by rw[hok.kl hlf,if_pos hlf]) (fun y hy=>by have:=(JQ hp i hy).2;omega) (by omega) (by omega) (AN (pg ps i) k) (Bc _ _) (fun j x hj hx=>?_) (fun x hx=>?_) (.inl ⟨hlf,rfl,rfl,rfl⟩)
  ·have hpl:AN (pg ps i) k=Ba k (pg ps i).keys:=if_neg fun q=>by rw[hlf] at q;cases q.1
   rw[hpl] at hj;exact EW (HI k _ j x hj hx)
  ·have hpl:AN (pg ps i) k=Ba k (pg ps i).keys:=if_neg fun q=>by rw[hlf] at q;cases q.1
   rw[Bu,decide_eq_false_iff_not,hx] at ht;rw[hpl] at hx;have h3:=JT k _ x hx;cases h4:B4 k x
   ·exact absurd (by rw[ID h4 h3]) ht
   ·rfl
 |d+1,i,low,high,hg,hil,hd,h1,h2,ht=>by
  obtain⟨g1,g2,g3,g4⟩:=hg;have hq:=Cl hp g1;have ha:=KQ hp g1 k;have hb:=g4 _ _ ha;have hkl:Bq ps k i<ps.length:=hin i _ (List.mem_of_getElem? ha)
  have hlo:B4 k (Eg (pg ps i) (AN (pg ps i) k) low)=false:=by
   unfold Eg;split
   ·exact h1
   ·have hpl:=Bc (pg ps i) k
    have hx:=List.getElem?_eq_getElem (l:=(pg ps i).keys) (i:=AN (pg ps i) k - 1) (by omega);rw[List.getD_eq_getElem?_getD,hx];exact FS hq g1 k (by omega) hx
  have hhi:Db (pg ps i) (AN (pg ps i) k) high=[]∨B4 k (Db (pg ps i) (AN (pg ps i) k) high)=true:=by
   unfold Db;split
   ·rename_i hl
    have hy:=List.getElem?_eq_getElem hl
    right
    rw[List.getD_eq_getElem?_getD,hy];exact Dw hq g1 k (Nat.le_refl _) hy
   ·exact h2
  have ht':Bu (pg ps (BH ps k d (Bq ps k i))) k=false:=ht;have IH:=M5 G t hp hin hn root k row hk d (Bq ps k i) _ _ hb hkl (by omega) hlo hhi ht';obtain⟨_,hsame,_⟩:=L7 hp k row d (Bq ps k i) _ _ hb hkl hin hlo hhi
  have hni:i ∉ Ak ps k d (Bq ps k i):=fun hmem=>by
   obtain⟨j,hj⟩:=List.mem_iff_getElem?.1 hmem;have hpl:=Dx ps k d (Bq ps k i);have hjl:=(List.getElem?_eq_some_iff.1 hj).1;obtain⟨lo',hi',hg'⟩:=EU hp k d (Bq ps k i) _ _ hb j i hj;have:=Bo (BX hp) (d+1) i _ _ _ _ (d - j) ⟨g1,g2,g3,g4⟩ hg';omega
  have hpi:=hsame i _ hni (DR hil);have kv:=Ma hp g1 k;have hpl0: ∀(j:Nat)(x:Ky),j<AN (pg ps i) k→(pg ps i).keys[j]?=some x→B4 k x=false:=fun j x hj hx=>FS hq g1 k hj hx;have hpl1: ∀x,(pg ps i).keys[AN (pg ps i) k]?=some x→B4 k x=true:=fun x hx=>Dw hq g1 k (Nat.le_refl _) hx;have hlen:=L9 ps k row d (Bq ps k i);have hup:=Hq hp hk row d (Bq ps k i);rw[C3];generalize C3 ps k row d (Bq ps k i)=X at *;obtain⟨qs,o⟩:=X
  cases o with
  |none=>exact Pf G t ps qs root i (pg ps i) k row (DR hil) hq.nk (by omega) _ (Bc _ _) hpl0 hpl1 g1 _ kv IH
  |some x=>
   obtain⟨up,n⟩:=x;obtain⟨u1,u2⟩:=hup up n rfl;exact L6 G t ps qs root i (pg ps i) k up row n (DR hil) hpi (by omega) (by simp only at hlen;omega) hq.nk (by rw[hq.ki g1,if_neg (by simp[g1])]) (fun y hy=>by have:=(JQ hp i hy).2;omega) (by omega) (by omega) _ (Bc _ _) hpl0 hpl1 (.inr ⟨g1,_,kv,u1,IH⟩)
end Go.AM
namespace Go.AM
open Go Go.RowKit
attribute [local irreducible] AWP Aw
theorem Nc (ps:List PG)(k:Ky)(row:Int){r d:Nat}(h:Trd ps r d):DF ps (Ak ps k d r).reverse k row=C3 ps k row d r:=
 (L7 h.ok k row d r [] [] h.good h.rl h.kin (MV k) (.inl rfl)).1
theorem ON {ps:List PG}{root:Int}{k:Ky}(h:CG ps root k=0):k≠[]∧k.length≤100:=by
 rw[CG] at h;split at h
 ·rename_i h';exact absurd h h'
 ·split at h
  ·rename_i hk
   rw[DM,Bool.and_eq_true,decide_eq_true_eq,decide_eq_true_eq] at hk;refine⟨fun e=>?_,by omega⟩;rw[e] at hk;simp at hk
  ·cases h
theorem HC {ps:List PG}(h:ps.length≤1048576)(ho: ∀p ∈ ps,LJ p):BG ps:=⟨h,ho⟩
theorem NB (G:List (Nat×List Value))(t:Bool)(ps:List PG)(root:Int)(ho:BG ps):Con prog G 37 [.agg [.ro t 5 (ps.map eP),.r (.int .i64 root)]] [] 0 (Is (.agg [.s 0 0 ps.length,.r (.int .i64 root)]) [(0,.lst 131 5 (ps.map eP))] 1) No:=
 (NA G t ps root ho).emb fun E hE=>by
  refine Emb.trans (EG 0 rfl) ?_;simp only[Ad,Jb,←Vr];(refine AE hE [0] rfl ?_ ?_<;>simp[AU,AO,lk,ren,renL,A9,AL,AK]<;>(try omega))
set_option maxHeartbeats 8000000 in
theorem S_ (G:List (Nat×List Value))(t u:Bool)(ps:List PG)(r d:Nat)(k:Ky)(row:Int)(ho:BG ps)(h:Trd ps r d)(h0:CG ps r k=0)(hrow:0≤row)(ht:Bu (pg ps (BH ps k d r)) k=false):
  Con prog G 52 [.agg [.ro u 5 (ps.map eP),.r (.int .i64 r)],.ro t 1 (k.map AC),.r (.int .i64 row)] [] 0 (Is (if 4000<(FH r (C3 ps k row d r)).1.length then .tup [.agg [.r (.slice none 0 0),.r (.int .i64 0)],.r (.int .i64 10)] else Gn ((FH r (C3 ps k row d r)).1,(FH r (C3 ps k row d r)).2,0)) [] 0) No:=by
 have cc:=Dn G t u ps r k ho;rw[h0] at cc
 have hf:GJ (pg ps (BH ps k d r)) k=(0,8):=by
  rw[Bu,decide_eq_false_iff_not] at ht;rw[GJ,if_neg ht]
 have fc:=Lt G t u ps r k ho (0,8) (fun _ r' d' e h'=>by
  obtain rfl:r=r':=by omega
  obtain rfl:=Bo (BX h.ok) d r _ _ _ _ d' h.good h'.good
  rw[Gg h.ok h.good k (h.leaf k),hf])
 simp only[K_,h0,ne_eq,not_true_eq_false,if_false] at fc;have oc:=NB G u ps r ho;have hkk:=ON h0;have ac:=M5 G t h.ok h.kin h.n r k row hkk d r [] [] h.good h.rl (by have:=h.dl;have:=h.n;omega) (MV k) (.inl rfl) ht;have zr:(row<0)=False:=eq_false (by omega);have hlen:=L9 ps k row d r;have hup:=Hq h.ok hkk row d r;have hok:=My h.ok ho.2 hkk row d r;have hn:=h.n;have hd:=h.dl;clear hf;generalize C3 ps k row d r=X at *;obtain⟨qs,o⟩:=X;simp only at hlen hup hok
 have zn:qs.length≤9000:=by omega
 rw[Eo,Eo] at ac
 cases o with
 |none=>
  have hR:FH r (qs,none)=(qs,(r:Int)):=rfl;rw[hR];have c2:=DV G false qs r (HC (by omega) hok);simp only[KS] at ac
  by_cases h4:4000<qs.length
  ·have z4:((qs.length:Int)>4000)=True:=eq_true (by omega)
   rw[if_pos h4];refine AA func52 rfl (by kernel_rfl) (of_decide_eq_true (by kernel_rfl)) ?_;intro E hG hE;subst hG;simp only[B9];(repeat' (first |refine A0 ?_ |refine A6 ?_ |((first |refine rR (fun K kp hK hkp=>?_) |refine cR cc ?_ |refine cR fc ?_ |refine cR oc ?_);simp(implicitDefEqProofs:=false) (maxSteps:=2000000) (disch:=omega) only[go_sem,bne_self_eq_false,beq_self_eq_true,zr];(repeat' (refine hK _ ?_;clear hK hkp kp K))) |refine A4 rfl ?_));(refine C6 [3,2] (ac) ?_ ?_ ?_ ?_ ?_ ?_ ?_ ?_ rfl rfl ?_;(·simp[Em,JG,Mg,Ee,CA,FK,lk,AK]);(·simp[AO,lk,A9,renL,ren,AL,AK]);(·(intro i hi;simp only[List.length_cons,List.length_nil] at hi;repeat' (first |omega |exact⟨_,rfl⟩ |(rcases i with _ |i))));(·simp);(·simp);(·simp);(·simp[AK]);(·simp[AK]);simp only[CJ,fw,LC,rm,List.map_cons,List.map_nil,List.foldl_cons,List.foldl_nil,List.getElem?_cons_zero,List.getElem?_cons_succ,List.getElem?_nil,List.length_cons,List.length_nil,Nat.zero_add,Nat.sub_self,Nat.add_zero,↓reduceIte,Nat.reduceEqDiff,reduceCtorEq,Nat.reduceAdd,Nat.reduceSub,List.cons_append,List.nil_append,ren,renL,A9,AK];simp(implicitDefEqProofs:=false) (maxSteps:=2000000) (disch:=omega) only[go_sem,AK];(repeat' (refine hK _ ?_;clear hK hkp kp K)));(repeat' (first |refine A0 ?_ |refine A6 ?_ |((refine rR (fun K kp hK hkp=>?_));simp(implicitDefEqProofs:=false) (maxSteps:=2000000) (disch:=omega) only[go_sem,z4];(repeat' (refine hK _ ?_;clear hK hkp kp K))) |refine A3 rfl ?_ |refine A4 rfl ?_ |refine A8 ?_));(refine A7 (by(simp(implicitDefEqProofs:=false) (maxSteps:=2000000) (disch:=omega) only[go_sem,results52]);rfl) ?_;refine eN hE ?_;simp[AG,ren,renL])
  ·have z4:((qs.length:Int)>4000)=False:=eq_false (by omega)
   rw[if_neg h4,Gn];refine AA func52 rfl (by kernel_rfl) (of_decide_eq_true (by kernel_rfl)) ?_;intro E hG hE;subst hG;simp only[B9];(repeat' (first |refine A0 ?_ |refine A6 ?_ |((first |refine rR (fun K kp hK hkp=>?_) |refine cR cc ?_ |refine cR fc ?_ |refine cR oc ?_);simp(implicitDefEqProofs:=false) (maxSteps:=2000000) (disch:=omega) only[go_sem,bne_self_eq_false,beq_self_eq_true,zr];(repeat' (refine hK _ ?_;clear hK hkp kp K))) |refine A4 rfl ?_));(refine C6 [3,2] (ac) ?_ ?_ ?_ ?_ ?_ ?_ ?_ ?_ rfl rfl ?_;(·simp[Em,JG,Mg,Ee,CA,FK,lk,AK]);(·simp[AO,lk,A9,renL,ren,AL,AK]);(·(intro i hi;simp only[List.length_cons,List.length_nil] at hi;repeat' (first |omega |exact⟨_,rfl⟩ |(rcases i with _ |i))));(·simp);(·simp);(·simp);(·simp[AK]);(·simp[AK]);simp only[CJ,fw,LC,rm,List.map_cons,List.map_nil,List.foldl_cons,List.foldl_nil,List.getElem?_cons_zero,List.getElem?_cons_succ,List.getElem?_nil,List.length_cons,List.length_nil,Nat.zero_add,Nat.sub_self,Nat.add_zero,↓reduceIte,Nat.reduceEqDiff,reduceCtorEq,Nat.reduceAdd,Nat.reduceSub,List.cons_append,List.nil_append,ren,renL,A9,AK];simp(implicitDefEqProofs:=false) (maxSteps:=2000000) (disch:=omega) only[go_sem,AK];(repeat' (refine hK _ ?_;clear hK hkp kp K)));(repeat' (first |refine A0 ?_ |refine A6 ?_ |((first |refine rR (fun K kp hK hkp=>?_) |refine cR c2 ?_);simp(implicitDefEqProofs:=false) (maxSteps:=2000000) (disch:=omega) only[go_sem,z4];(repeat' (refine hK _ ?_;clear hK hkp kp K))) |refine A4 rfl ?_ |refine A8 ?_));(refine A7 (by(simp(implicitDefEqProofs:=false) (maxSteps:=2000000) (disch:=omega) only[go_sem,results52]);rfl) ?_;refine eN hE ?_;simp[AG,ren,renL])
 |some x=>
  obtain⟨up,n⟩:=x;obtain⟨u1,u2⟩:=hup up n rfl;obtain⟨qr,hqr⟩: ∃qr:PG,(⟨false,[up],[(r:Int),n],[],-1⟩:PG)=qr:=⟨_,rfl⟩;obtain⟨vs,hvs⟩: ∃vs,qs++[qr]=vs:=⟨_,rfl⟩
  have hR:FH r (qs,some (up,n))=(vs,(qs.length:Int)):=by rw[←hvs,←hqr];rfl
  rw[hR]
  have hl1:vs.length=qs.length+1:=by rw[←hvs];simp
  have c2:=DV G false vs qs.length (HC (by rw[hl1];omega) (fun p hp=>by
   rw[←hvs] at hp
   rcases List.mem_append.1 hp with hp |hp
   ·exact hok p hp
   ·obtain rfl:=List.mem_singleton.1 hp
    rw[←hqr]
    exact⟨by simp,by simp,by simp,by simp;omega⟩))
  simp only[KS] at ac
  obtain⟨u0,us,rfl⟩: ∃u0 us,up=u0::us:=by
   cases up with
   |nil=>exact absurd rfl u1
   |cons u us=>exact⟨u,us,rfl⟩
  have e1:((qs.length+1:Nat):Int) - 1=(qs.length:Int):=by omega
  refine AA func52 rfl (by kernel_rfl) (of_decide_eq_true (by kernel_rfl)) ?_;intro E hG hE;subst hG;simp only[B9];(repeat' (first |refine A0 ?_ |refine A6 ?_ |((first |refine rR (fun K kp hK hkp=>?_) |refine cR cc ?_ |refine cR fc ?_ |refine cR oc ?_);simp(implicitDefEqProofs:=false) (maxSteps:=2000000) (disch:=omega) only[go_sem,bne_self_eq_false,beq_self_eq_true,zr];(repeat' (refine hK _ ?_;clear hK hkp kp K))) |refine A4 rfl ?_));(refine C6 [3,2] (ac) ?_ ?_ ?_ ?_ ?_ ?_ ?_ ?_ rfl rfl ?_;(·simp[Em,JG,Mg,Ee,CA,FK,lk,AK]);(·simp[AO,lk,A9,renL,ren,AL,AK]);(·(intro i hi;simp only[List.length_cons,List.length_nil] at hi;repeat' (first |omega |exact⟨_,rfl⟩ |(rcases i with _ |i))));(·simp);(·simp);(·simp);(·simp[AK]);(·simp[AK]);simp only[CJ,fw,LC,rm,List.map_cons,List.map_nil,List.foldl_cons,List.foldl_nil,List.getElem?_cons_zero,List.getElem?_cons_succ,List.getElem?_nil,List.length_cons,List.length_nil,Nat.zero_add,Nat.sub_self,Nat.add_zero,↓reduceIte,Nat.reduceEqDiff,reduceCtorEq,Nat.reduceAdd,Nat.reduceSub,List.cons_append,List.nil_append,ren,renL,A9,AK];simp(implicitDefEqProofs:=false) (maxSteps:=2000000) (disch:=omega) only[go_sem,AK];(repeat' (refine hK _ ?_;clear hK hkp kp K)));refine Mx (fx:=⟨[(11,.p 1 0 0),(7,.r (.int .i64 0)),(6,.p 0 0 0)],[(0,.box 33 [.r (.slice none 0 0),.r (.int .i64 0)]),(1,.box 33 [.s 2 0 vs.length,.r (.int .i64 qs.length)]),(2,.lst 131 5 (vs.map eP))],3⟩) ?_ fun K hcut=>?_;rotate_left
  ·(repeat' (first |refine A0 ?_ |((refine rR (fun K kp hK hkp=>?_));simp(implicitDefEqProofs:=false) (maxSteps:=2000000) (disch:=omega) only[go_sem,e1,List.map_cons];(repeat' (first |(refine hK _ ?_;clear hK hkp kp K) |(with_reducible refine And.intro ?_ ?_) |omega))) |refine A3 rfl ?_))
   refine hcut _ ?_;refine Emb.trans (Ml (els':=vs.map eP) 8 rfl (by simp[hl1]) (fun i e e' h1 h2=>?_)) ?_
   ·rw[←hvs,List.map_append] at h2
    by_cases hi:i<(qs.map eP).length
    ·rw[List.getElem?_append_left hi] at h1 h2
     rw[h1] at h2;cases h2;exact FM _
    ·rw[List.getElem?_append_right (by omega)] at h1 h2
     obtain⟨j,hj⟩: ∃j,i - (qs.map eP).length=j:=⟨_,rfl⟩;rw[hj] at h1 h2
     cases j with
     |succ j=>simp at h1
     |zero=>
      subst hqr;cases h1;cases h2;simp[LF,wk,eP,Aj,eI]
   ·simp only[Ad]
    (refine AE hE [1,3,8] rfl ?_ ?_<;>simp[AU,AO,lk,ren,renL,A9,AL,AK,hl1]<;>(try omega))
  ·have hvl:vs.length≤10000:=by omega
   clear hvs hl1
   by_cases h4:4000<vs.length
   ·have z4:((vs.length:Int)>4000)=True:=eq_true (by omega)
    rw[if_pos h4];(repeat' (first |refine A0 ?_ |((refine rR (fun K kp hK hkp=>?_));simp(implicitDefEqProofs:=false) (maxSteps:=2000000) (disch:=omega) only[go_sem,z4];(repeat' (refine hK _ ?_;clear hK hkp kp K))) |refine A3 rfl ?_ |refine A8 ?_));(refine A7 (by(simp(implicitDefEqProofs:=false) (maxSteps:=2000000) (disch:=omega) only[go_sem,results52]);rfl) ?_;refine eN hE ?_;simp[AG,ren,renL])
   ·have z4:((vs.length:Int)>4000)=False:=eq_false (by omega)
    rw[if_neg h4,Gn];(repeat' (first |refine A0 ?_ |refine A6 ?_ |((first |refine rR (fun K kp hK hkp=>?_) |refine cR c2 ?_);simp(implicitDefEqProofs:=false) (maxSteps:=2000000) (disch:=omega) only[go_sem,z4];(repeat' (refine hK _ ?_;clear hK hkp kp K))) |refine A4 rfl ?_ |refine A8 ?_));(refine A7 (by(simp(implicitDefEqProofs:=false) (maxSteps:=2000000) (disch:=omega) only[go_sem,results52]);rfl) ?_;refine eN hE ?_;simp[AG,ren,renL])
set_option maxHeartbeats 4000000 in
theorem Mc (G:List (Nat×List Value))(t u:Bool)(ps:List PG)(root:Int)(k:Ky)(row:Int)(ho:BG ps)(R:List PG×Int×Int)(h1:D6 ps root k row≠0→R=([],0,D6 ps root k row))(hR:D6 ps root k row=0→ ∀r d:Nat,root=r→Trd ps r d→R=LL ps k row r d):
  Con prog G 52 [.agg [.ro u 5 (ps.map eP),.r (.int .i64 root)],.ro t 1 (k.map AC),.r (.int .i64 row)] [] 0 (Is (Gn R) [] 0) No:=by
 have cc:=Dn G t u ps root k ho
 by_cases h0:CG ps root k=0
 ·rw[h0] at cc
  obtain⟨r,d,rfl,h⟩:=GS (Ho h0)
  by_cases hrow:row<0
  ·have hE:D6 ps r k row=3:=by simp[D6,h0,hrow]
   rw[h1 (by rw[hE];decide),hE,Gn];have zr:(row<0)=True:=eq_true hrow;refine Con.res (y:= .tup [.agg [.r (.slice none 0 0),.r (.int .i64 0)],.r (.int .i64 3)]) ?_ (fun w z th v hr=>Br hr);refine AA func52 rfl (by kernel_rfl) (of_decide_eq_true (by kernel_rfl)) ?_;intro E hG hE;subst hG;simp only[B9];(repeat' (first |refine A0 ?_ |((first |refine rR (fun K kp hK hkp=>?_) |refine cR cc ?_);simp(implicitDefEqProofs:=false) (maxSteps:=2000000) (disch:=omega) only[go_sem,bne_self_eq_false,beq_self_eq_true,zr];(repeat' (refine hK _ ?_;clear hK hkp kp K))) |refine A3 rfl ?_ |refine A8 ?_));(refine A7 (by(simp(implicitDefEqProofs:=false) (maxSteps:=2000000) (disch:=omega) only[go_sem,results52]);rfl) ?_;refine eN hE ?_;simp[AG,ren,renL])
  ·have hE:D6 ps r k row=0:=by simp[D6,h0,hrow]
   rw[hR hE r d rfl h,LL];cases ht:Bu (pg ps (BH ps k d r)) k
   ·rw[if_neg (by simp),Nc ps k row h]
    have key:=S_ G t u ps r d k row ho h h0 (by omega) ht;split
    ·rename_i h4
     rw[if_pos h4] at key;exact Con.res key (fun w z th v hr=>Br hr)
    ·rename_i h4
     rw[if_neg h4] at key;exact key
   ·rw[if_pos rfl,Gn]
    have hf: ∃c,GJ (pg ps (BH ps k d r)) k=(c,0):=by
     rw[Bu,decide_eq_true_eq] at ht;exact⟨_,by rw[GJ,if_pos ht]⟩
    obtain⟨c,hf⟩:=hf
    have fc:=Lt G t u ps r k ho (c,0) (fun _ r' d' e h'=>by
     obtain rfl:r=r':=by omega
     obtain rfl:=Bo (BX h.ok) d r _ _ _ _ d' h.good h'.good
     rw[Gg h.ok h.good k (h.leaf k),hf])
    simp only[K_,h0,ne_eq,not_true_eq_false,if_false] at fc;have zr:(row<0)=False:=eq_false hrow;refine Con.res (y:= .tup [.agg [.r (.slice none 0 0),.r (.int .i64 0)],.r (.int .i64 9)]) ?_ (fun w z th v hr=>Br hr);refine AA func52 rfl (by kernel_rfl) (of_decide_eq_true (by kernel_rfl)) ?_;intro E hG hE;subst hG;simp only[B9];(repeat' (first |refine A0 ?_ |refine A6 ?_ |((first |refine rR (fun K kp hK hkp=>?_) |refine cR cc ?_ |refine cR fc ?_);simp(implicitDefEqProofs:=false) (maxSteps:=2000000) (disch:=omega) only[go_sem,bne_self_eq_false,beq_self_eq_true,zr];(repeat' (refine hK _ ?_;clear hK hkp kp K))) |refine A3 rfl ?_ |refine A4 rfl ?_ |refine A8 ?_));(refine A7 (by(simp(implicitDefEqProofs:=false) (maxSteps:=2000000) (disch:=omega) only[go_sem,results52]);rfl) ?_;refine eN hE ?_;simp[AG,ren,renL])
 ·have hE:D6 ps root k row=CG ps root k:=by simp[D6,h0]
  rw[h1 (by rw[hE];exact h0),hE,Gn]
  have z0:(CG ps root k !=0)=true:=by simp[h0]
  have z1:(CG ps root k==0)=false:=by simp[h0]
  refine Con.res (y:= .tup [.agg [.r (.slice none 0 0),.r (.int .i64 0)],.r (.int .i64 (CG ps root k))]) ?_ (fun w z th v hr=>Br hr);refine AA func52 rfl (by kernel_rfl) (of_decide_eq_true (by kernel_rfl)) ?_;intro E hG hE;subst hG;simp only[B9];(repeat' (first |refine A0 ?_ |refine A6 ?_ |((first |refine rR (fun K kp hK hkp=>?_) |refine cR cc ?_);simp(implicitDefEqProofs:=false) (maxSteps:=2000000) (disch:=omega) only[go_sem,z0,z1];(repeat' (refine hK _ ?_;clear hK hkp kp K))) |refine A3 rfl ?_ |refine A4 rfl ?_ |refine A8 ?_));(refine A7 (by(simp(implicitDefEqProofs:=false) (maxSteps:=2000000) (disch:=omega) only[go_sem,results52,h0]);rfl) ?_;refine eN hE ?_;simp[AG,ren,renL,h0])
theorem HS (ps:List PG)(root:Int)(k:Ky)(row:Int): ∃R:List PG×Int×Int,(D6 ps root k row≠0→R=([],0,D6 ps root k row))∧(D6 ps root k row=0→ ∃r d:Nat,root=r∧Trd ps r d∧CG ps root k=0∧R=LL ps k row r d∧ ∀r' d':Nat,root=r'→Trd ps r' d'→R=LL ps k row r' d'):=by
 by_cases h0:D6 ps root k row=0
 ·have ha:CG ps root k=0:=by
   unfold D6 at h0;split at h0
   ·rename_i h;exact absurd h0 h
   ·rename_i h;simpa using h
  obtain⟨r,d,rfl,h⟩:=GS (Ho ha);refine⟨LL ps k row r d,fun e=>absurd h0 e,fun _=>⟨r,d,rfl,h,ha,rfl,fun r' d' e h'=>?_⟩⟩
  obtain rfl:r=r':=by omega
  obtain rfl:=Bo (BX h.ok) d r _ _ _ _ d' h.good h'.good
  rfl
 ·exact⟨_,fun _=>rfl,fun e=>absurd e h0⟩
theorem U3 {ps:List PG}{k:Ky}{row:Int}{r d:Nat}(h:Trd ps r d)(ho:BG ps)(h0:CG ps r k=0):BG (LL ps k row r d).1:=by
 have hnil:BG []:=⟨Nat.zero_le _,fun p hp=>by cases hp⟩;rw[LL,Nc ps k row h];split
 ·exact hnil
 ·split
  ·exact hnil
  ·rename_i h4
   have hkk:=ON h0;have hok:=My h.ok ho.2 hkk row d r;have hup:=Hq h.ok hkk row d r;generalize C3 ps k row d r=X at *;obtain⟨qs,o⟩:=X
   cases o with
   |none=>exact HC (by simp only[FH] at h4 ⊢;omega) hok
   |some x=>
    obtain⟨up,n⟩:=x;refine HC (by simp only[FH] at h4 ⊢;omega) (fun p hp=>?_)
    rcases List.mem_append.1 hp with hp |hp
    ·exact hok p hp
    ·obtain rfl:=List.mem_singleton.1 hp
     have:=(hup up n rfl).2;exact⟨by simp,by simp,by simp,by simp;omega⟩
end Go.AM
namespace Go.AM
open Go Go.RowKit
open Go.Proofs.YtekljlenlbhmcaaGreatDoor (AY AZ)
attribute [local irreducible] AWP Aw
theorem ES {w:World}{z:AT}{th:List NLoc}{x x' y:AV}{v:Value}(hw:wk x x')(h:Rep w z th (.tup [x,y]) v):Rep w z th (.tup [x',y]) v:=by
 cases h with
 |tup _ c ys hl hx=>
  refine .tup _ _ ys hl (fun i u q h1 h2=>?_)
  cases i with
  |zero=>
   have:=hx 0 _ q rfl h2;cases h1;exact Ra hw this
  |succ i=>exact hx (i+1) u q h1 h2
def Lf:PG:=⟨true,[],[],[],-1⟩
theorem SH {G:List (Nat×List Value)}{f:Nat}(h:Con prog G f [] [] 0 (Is (.agg [.s 0 0 1,.r (.int .i64 0)]) [(0,.lst 131 5 [[.r (.bool true),.r (.slice none 0 0),.r (.slice none 0 0),.r (.slice none 0 0),.r (.int .i64 (-1))]])] 1) No):
  Con prog G f [] [] 0 (Is (.agg [.ro true 5 ([Lf].map eP),.r (.int .i64 0)]) [] 0) No:=h.emb fun E hE=>by
 refine Emb.trans (Ml (els':=[Lf].map eP) 0 rfl rfl (fun i e e' h1 h2=>?_)) ?_
 ·cases i with
  |zero=>cases h1;cases h2;simp[LF,wk,eP,Lf]
  |succ i=>simp at h1
 ·simp only[Ad]
  refine Emb.trans (Q8 0 rfl (by simp only[II,JJ,lk,rm,List.map_cons,List.map_nil,List.length_cons,List.length_nil,List.drop_zero,Nat.zero_add,Nat.le_refl,↓reduceIte];rfl)) ?_;(refine AE hE [] rfl ?_ ?_<;>simp[AU,AO,lk,ren,renL,A9,AL,List.map_cons,List.map_nil,List.take]<;>(try omega))
theorem Tk (G:List (Nat×List Value)):Con prog G 46 [] [] 0 (Is (.agg [.ro true 5 ([Lf].map eP),.r (.int .i64 0)]) [] 0) No:=SH (by
 refine AA func46 rfl (by kernel_rfl) (of_decide_eq_true (by kernel_rfl)) ?_;intro E hG hE;subst hG;simp only[B9];(repeat' (first |refine A0 ?_ |((refine rR (fun K kp hK hkp=>?_));simp(implicitDefEqProofs:=false) (maxSteps:=2000000) (disch:=omega) only[go_sem];(repeat' (refine hK _ ?_;clear hK hkp kp K))) |refine A8 ?_))
 (refine A7 (by(simp(implicitDefEqProofs:=false) (maxSteps:=2000000) (disch:=omega) only[go_sem,results46,AK]);rfl) ?_;refine(Cx hE [1] rfl ?_ ?_).s<;>simp[AG,AO,lk,ren,renL,A9,AL,AK]))
theorem RB (G:List (Nat×List Value)):Con prog G 50 [] [] 0 (Is (.agg [.ro true 5 ([Lf].map eP),.r (.int .i64 0)]) [] 0) No:=SH (by
 refine AA func50 rfl (by kernel_rfl) (of_decide_eq_true (by kernel_rfl)) ?_;intro E hG hE;subst hG;simp only[B9];(repeat' (first |refine A0 ?_ |((refine rR (fun K kp hK hkp=>?_));simp(implicitDefEqProofs:=false) (maxSteps:=2000000) (disch:=omega) only[go_sem];(repeat' (refine hK _ ?_;clear hK hkp kp K))) |refine A8 ?_))
 (refine A7 (by(simp(implicitDefEqProofs:=false) (maxSteps:=2000000) (disch:=omega) only[go_sem,results50,AK]);rfl) ?_;refine(Cx hE [1] rfl ?_ ?_).s<;>simp[AG,AO,lk,ren,renL,A9,AL,AK]))
theorem RL (G:List (Nat×List Value))(t:Bool)(l:List Int)(hl:l.length≤1048576):Con prog G 147 [.ro t 1 (l.map eI)] [] 0 (Is (.ro true 1 (l.map eI)) [] 0) No:=
 (F7 G t l hl).emb fun E hE=>by
  have tk:(l.map eI).take l.length=l.map eI:=List.take_of_length_le (by simp);refine Emb.trans (Q8 0 rfl (by simp only[II,lk,rm,tk,List.drop_zero,Nat.zero_add,List.length_map,Nat.le_refl,↓reduceIte];rfl)) ?_;(refine AE hE [] rfl ?_ ?_<;>simp[AU,AO,lk,ren,renL,A9,AL]<;>(try omega))
set_option maxHeartbeats 2000000 in
theorem PP (w:World)(a:Option Addr)(c:Nat):Calls prog 42 #[.slice a 0 c] w fun e w'=>(∃a' c',e= .returned (.slice a' 0 c'))∧Below w.heap.size w w':=by
 have hq: ∀w,(binOp .eql 50 (.slice a 0 c) (.slice none 0 0)).run prog w= .ok (.bool a.isNone) w:=fun w=>Lib.run_eql_slice_nil w 50 74 a 0 c 0 0 underlying50
 go_enter func42,ntmps42
 cases a with
 |none=>
  go_wp2
  go_ret
  exact⟨⟨_,_,rfl⟩,Below.refl _ _⟩
 |some p=>
  go_wp2
  go_ret
  exact⟨⟨_,_,rfl⟩,(Below.refl _ w).alloc (Nat.le_refl _) _⟩
theorem Kr (G:List (Nat×List Value))(t:Bool)(l:List V)(hl:l.length≤1048576):Con prog G 42 [.ro t 3 (l.map eV)] [] 0 (Is (.ro true 3 (l.map eV)) [] 0) No:=by
 cases l with
 |cons x r=>exact PQ G t x r (by simp only[List.length_cons] at hl;omega)
 |nil=>
  refine⟨by kernel_rfl,fun w th z own vs ho hm hr=>?_⟩;have hth:th=[]:=List.length_eq_zero_iff.1 hm.len;subst hth;obtain⟨v,r,rfl,h1,h2⟩:=hr.head;obtain rfl:=h2.of_nil;obtain⟨a,c,rfl⟩:=Ek h1;refine(PP w a c).mono ?_;rintro e w' ⟨⟨a',c',rfl⟩,hb⟩;exact⟨_,.ro true 3 [],[],0,[],z,.inl ⟨rfl,rfl,rfl,rfl⟩,hm.ext ⟨hb.size,fun b hlt=>hb.block b hlt,⟨hb.os,hb.tape,hb.output⟩⟩,.nil _ _ _ _ _⟩
theorem PS (G:List (Nat×List Value))(t:Bool)(x:CO)(l:List CO)(hl:l.length≤1048576):Con prog G 98 [.ro t 2 ((x::l).map eC)] [] 0 (Is (.ro true 2 ((x::l).map eC)) [] 0) No:=by
 refine AA func98 rfl (by kernel_rfl) (of_decide_eq_true (by kernel_rfl)) ?_;intro E hG hE;subst hG;simp only[B9];(repeat' (first |refine A0 ?_ |refine A6 ?_ |((refine rR (fun K kp hK hkp=>?_));simp(implicitDefEqProofs:=false) (maxSteps:=2000000) (disch:=omega) only[go_sem];(repeat' (first |(refine hK _ ?_;clear hK hkp kp K) |(with_reducible refine And.intro ?_ ?_) |omega))) |refine A4 rfl ?_ |refine A8 ?_));(refine A7 (by(simp(implicitDefEqProofs:=false) (maxSteps:=2000000) (disch:=omega) only[go_sem,results98]);rfl) ?_;refine Ar (by simp only[AG];simp(implicitDefEqProofs:=false) (maxSteps:=2000000) (disch:=omega) only[go_sem];rfl) ?_;refine(Al hE (by simp) ?_).s;simp[AG,ren,renL])
set_option maxHeartbeats 4000000 in
theorem NP (G:List (Nat×List Value))(t:Bool)(ps:List PG)(root:Int)(ho:BG ps):Con prog G 99 [.agg [.ro t 5 (ps.map eP),.r (.int .i64 root)]] [] 0 (Is (.agg [.ro true 5 (ps.map eP),.r (.int .i64 root)]) [] 0) No:=by
 have hn:=ho.1;refine AA func99 rfl (by kernel_rfl) (of_decide_eq_true (by kernel_rfl)) ?_;intro E hG hE;subst hG;simp only[B9];(repeat' (first |refine A0 ?_ |refine A5 ?_ |((refine rR (fun K kp hK hkp=>?_));simp(implicitDefEqProofs:=false) (maxSteps:=2000000) (disch:=omega) only[go_sem,eP];(repeat' (refine hK _ ?_;clear hK hkp kp K)))));(refine AWP.emb (BD 2 0 131 5 rfl rfl (by simp)) ?_;simp only[List.set_cons_zero,List.set_cons_succ,lk,↓reduceIte,Nat.reduceAdd]);refine AH (fun i:Nat=>⟨[(15,.r (.int .i64 i)),(14,.r (.int .i64 ps.length)),(13,.ro t 5 (ps.map eP)),(3,.p 2 0 0),(2,.p 1 0 0)],[(0,.box 33 [.ro t 5 (ps.map eP),.r (.int .i64 root)]),(1,.box 33 [.r (.slice none 0 0),.r (.int .i64 0)]),(2,.box 33 [.s 3 0 i,.r (.int .i64 root)]),(3,.lst 131 5 ((ps.take i).map eP))],4⟩) (fun i=>i≤ps.length) (fun i=>ps.length - i) 0 ?_ ?_ ?_
 ·exact Nat.zero_le _
 ·(refine AE hE [0,1,2,3] rfl ?_ ?_<;>simp[AU,AO,lk,ren,renL,A9,AL,AK]<;>(try omega))
 intro i hi
 by_cases hlt:i<ps.length
 ·have zi:((i:Int)<(ps.length:Int))=True:=eq_true (by omega)
  obtain⟨p,hp⟩: ∃p,ps[i]?=some p:=⟨ps[i],by simp[hlt]⟩;obtain⟨h1,h2,h3,h4⟩:=ho.2 p (List.mem_of_getElem? hp);have bc:=D8 E.G true p.high h3;have ic:=RL E.G true p.kids h2;(repeat' (first |refine A0 ?_ |refine A5 ?_ |refine A6 ?_ |((first |refine rR (fun K kp hK hkp=>?_) |refine rU (id:=5) mixed 12 [⟨0,0,[],[(0,1)]⟩,⟨0,0,[0],[(0,1)]⟩,⟨0,0,[],[(0,1)]⟩,⟨0,0,[2],[(0,1)]⟩,⟨0,0,[2,3],[(0,1)]⟩,⟨0,0,[],[(0,1)]⟩,⟨0,0,[5],[(0,1)]⟩,⟨0,0,[2,3,4,5,6],[(0,1)]⟩,⟨0,0,[],[(0,1)]⟩,⟨0,0,[8],[(0,1)]⟩,⟨0,0,[0,1,2,3,4,5,6,7,8,9],[(0,1)]⟩,⟨0,1,[],[]⟩] 1 [19,20,21,22,23,24,25,26,27,28,29,6] [] (fun K kp hK hkp=>?_) |refine cU ic ?_ |refine cU bc ?_);simp(implicitDefEqProofs:=false) (maxSteps:=2000000) (disch:=omega) only[go_sem,zi,hp,eP];(repeat' (refine hK _ ?_;clear hK hkp kp K))) |refine A3 rfl ?_));(refine AWP.emb (BD 5 1 81 1 rfl rfl (by simp)) ?_;simp only[List.set_cons_zero,List.set_cons_succ,lk,↓reduceIte,Nat.reduceAdd]);refine AH (fun k:Nat=>⟨[(33,.r (.int .i64 k)),(32,.r (.int .i64 p.keys.length)),(31,.ro true 1 (p.keys.map Aj)),(6,.p 5 0 0),(15,.r (.int .i64 i)),(14,.r (.int .i64 ps.length)),(13,.ro t 5 (ps.map eP)),(3,.p 2 0 0),(2,.p 1 0 0)],[(0,.box 33 [.ro t 5 (ps.map eP),.r (.int .i64 root)]),(1,.box 33 [.r (.slice none 0 0),.r (.int .i64 0)]),(2,.box 33 [.s 3 0 i,.r (.int .i64 root)]),(3,.lst 131 5 ((ps.take i).map eP)),(4,.box 131 (eP p)),(5,.box 131 [.r (.bool p.leaf),.s 6 0 k,.ro true 1 (p.kids.map eI),.ro true 1 (p.high.map AC),.r (.int .i64 p.next)]),(6,.lst 81 1 ((p.keys.take k).map Aj))],7⟩) (fun k=>k≤p.keys.length) (fun k=>p.keys.length - k) 0 ?_ ?_ ?_
  ·exact Nat.zero_le _
  ·(refine AE hE [0,1,2,3,4,5,6] rfl ?_ ?_<;>simp[AU,AO,lk,ren,renL,A9,AL,eP]<;>(try omega))
  intro k hk
  by_cases hkl:k<p.keys.length
  ·have zk:((k:Int)<(p.keys.length:Int))=True:=eq_true (by omega)
   obtain⟨x,hx⟩: ∃x,p.keys[k]?=some x:=⟨p.keys[k],by simp[hkl]⟩;have xc:=D8 E.G true x (h4 x (List.mem_of_getElem? hx))
   have htk:p.keys.take (k+1)=p.keys.take k++[x]:=by rw[List.take_add_one,hx];rfl
   have hl:(p.keys.take k).length=k:=by rw[List.length_take];omega
   (repeat' (first |refine A0 ?_ |refine A5 ?_ |refine A6 ?_ |((first |refine rR (fun K kp hK hkp=>?_) |refine rD (id:=9) mixed 5 [0,1,2,3,4] (fun K kp hK hkp=>?_) |refine cD xc ?_);simp(implicitDefEqProofs:=false) (maxSteps:=2000000) (disch:=omega) only[go_sem,zk,hx,eP,Aj,hl,Value.oneCell'];(repeat' (first |(refine hK _ ?_;clear hK hkp kp K) |(with_reducible refine And.intro ?_ ?_) |omega))) |refine A3 rfl ?_))
   ((refine AJ (k+1) ?_ ?_ ?_);rotate_left;(·(try dsimp only);(omega));(·(refine AE hE [0,1,2,3,4,5,8] rfl ?_ ?_<;>simp[AU,AO,lk,ren,renL,A9,AL,htk,Aj,eP,List.take_take,Nat.min_self]<;>(try omega))))
   omega
  ·have zk:((p.keys.length:Int)<(p.keys.length:Int))=False:=eq_false (by omega)
   obtain rfl:k=p.keys.length:=by omega
   rw[List.take_length]
   have hl:(ps.take i).length=i:=by rw[List.length_take];omega
   have ht:ps.take (i+1)=ps.take i++[p]:=by rw[List.take_add_one,hp];rfl
   (repeat' (first |refine A0 ?_ |refine AB ?_ |((refine rR (fun K kp hK hkp=>?_));simp(implicitDefEqProofs:=false) (maxSteps:=2000000) (disch:=omega) only[go_sem,zk,eP,hl,Value.oneCell'];(repeat' (first |(refine hK _ ?_;clear hK hkp kp K) |(with_reducible refine And.intro ?_ ?_) |omega))) |refine A4 rfl ?_))
   ((refine AJ (i+1) ?_ ?_ ?_);rotate_left;(·(try dsimp only);(omega));(·(refine AE hE [0,1,2,8] rfl ?_ ?_<;>simp[AU,AO,lk,ren,renL,A9,AL,ht,eP,List.take_take,Nat.min_self]<;>(try omega))))
   omega
 ·have zi:((i:Int)<(ps.length:Int))=False:=eq_false (by omega)
  obtain rfl:i=ps.length:=by omega
  rw[List.take_length];(repeat' (first |refine A0 ?_ |refine AB ?_ |((refine rR (fun K kp hK hkp=>?_));simp(implicitDefEqProofs:=false) (maxSteps:=2000000) (disch:=omega) only[go_sem,zi];(repeat' (refine hK _ ?_;clear hK hkp kp K))) |refine A4 rfl ?_ |refine A8 ?_));(refine A7 (by(simp(implicitDefEqProofs:=false) (maxSteps:=2000000) (disch:=omega) only[go_sem,results99]);rfl) ?_;refine Ar (by simp only[AG];simp(implicitDefEqProofs:=false) (maxSteps:=2000000) (disch:=omega) only[go_sem];rfl) ?_;refine(Al hE (by simp) ?_).s;simp[AG,ren,renL])
set_option maxHeartbeats 4000000 in
theorem Th (G:List (Nat×List Value))(b:TB)(ho:okTB b)(hc:b.cols≠[]):Con prog G 45 [.agg (Ac b)] [] 0 (Is (.agg [.r (.string b.nm),.ro true 2 (b.cols.map eC),.s 0 0 b.rows.length,.ro true 5 (b.ps.map eP),.r (.int .i64 b.root)]) [(0,.lst 50 1 (b.rows.map Cu))] 1) No:=by
 have tc:=NP G true b.ps b.root ho.ps;have hcl:=ho.cl;have hrl:=ho.rl
 obtain⟨c,cs,hcs⟩: ∃c cs,b.cols=c::cs:=by
  cases h:b.cols with
  |nil=>exact absurd h hc
  |cons c cs=>exact⟨c,cs,rfl⟩
 have cc:=PS G true c cs (by rw[hcs,List.length_cons] at hcl;omega);rw[←hcs] at cc;clear hcs hc;refine AA func45 rfl (by kernel_rfl) (of_decide_eq_true (by kernel_rfl)) ?_;intro E hG hE;subst hG;simp only[B9];(repeat' (first |refine A0 ?_ |refine A5 ?_ |((first |refine rR (fun K kp hK hkp=>?_) |refine rU (id:=1) mixed 10 [⟨0,0,[],[(0,1)]⟩,⟨0,0,[0],[(0,1)]⟩,⟨0,0,[],[(0,1)]⟩,⟨0,0,[2],[(0,1)]⟩,⟨0,0,[2,3],[(0,1)]⟩,⟨0,0,[],[(0,1)]⟩,⟨0,0,[5],[(0,1)]⟩,⟨0,0,[2,3,4,5,6],[(0,1)]⟩,⟨0,0,[0,1,2,3,4,5,6,7],[(0,1)]⟩,⟨0,1,[],[]⟩] 1 [6,7,8,9,10,11,12,13,14,3] [] (fun K kp hK hkp=>?_) |refine cU cc ?_ |refine cU tc ?_);simp(implicitDefEqProofs:=false) (maxSteps:=2000000) (disch:=omega) only[go_sem,Ac];(repeat' (refine hK _ ?_;clear hK hkp kp K)))));(refine AWP.emb (BD 2 2 50 1 rfl rfl (by simp)) ?_;simp only[List.set_cons_zero,List.set_cons_succ,lk,↓reduceIte,Nat.reduceAdd]);refine AH (fun k:Nat=>⟨[(18,.r (.int .i64 k)),(17,.r (.int .i64 b.rows.length)),(16,.ro true 1 (b.rows.map Cu)),(3,.p 2 0 0),(2,.p 1 0 0)],[(0,.box 35 (Ac b)),(1,.box 35 [.r (.string ⟨#[]⟩),.r (.slice none 0 0),.r (.slice none 0 0),.r (.slice none 0 0),.r (.int .i64 0)]),(2,.box 35 [.r (.string b.nm),.ro true 2 (b.cols.map eC),.s 3 0 k,.ro true 5 (b.ps.map eP),.r (.int .i64 b.root)]),(3,.lst 50 1 ((b.rows.take k).map Cu))],4⟩) (fun k=>k≤b.rows.length) (fun k=>b.rows.length - k) 0 ?_ ?_ ?_
 ·exact Nat.zero_le _
 ·(refine AE hE [0,1,2,3] rfl ?_ ?_<;>simp[AU,AO,lk,ren,renL,A9,AL,Ac]<;>(try omega))
 intro k hk
 by_cases hlt:k<b.rows.length
 ·have zk:((k:Int)<(b.rows.length:Int))=True:=eq_true (by omega)
  obtain⟨x,hx⟩: ∃x,b.rows[k]?=some x:=⟨b.rows[k],by simp[hlt]⟩
  have htk:b.rows.take (k+1)=b.rows.take k++[x]:=by rw[List.take_add_one,hx];rfl
  have hl2:(b.rows.take k).length=k:=by rw[List.length_take];omega
  have vc:=Kr E.G true x (ho.rs x (List.mem_of_getElem? hx)).1;(repeat' (first |refine A0 ?_ |refine A5 ?_ |refine A6 ?_ |((first |refine rR (fun K kp hK hkp=>?_) |refine rD (id:=5) mixed 5 [0,1,2,3,4] (fun K kp hK hkp=>?_) |refine cD vc ?_);simp(implicitDefEqProofs:=false) (maxSteps:=2000000) (disch:=omega) only[go_sem,zk,hx,Ac,Cu,hl2,Value.oneCell'];(repeat' (first |(refine hK _ ?_;clear hK hkp kp K) |(with_reducible refine And.intro ?_ ?_) |omega))) |refine A3 rfl ?_))
  ((refine AJ (k+1) ?_ ?_ ?_);rotate_left;(·(try dsimp only);(omega));(·(refine AE hE [0,1,2,5] rfl ?_ ?_<;>simp[AU,AO,lk,ren,renL,A9,AL,htk,Ac,Cu,List.take_take,Nat.min_self]<;>(try omega))))
  omega
 ·have zk:((k:Int)<(b.rows.length:Int))=False:=eq_false (by omega)
  obtain rfl:k=b.rows.length:=by omega
  rw[List.take_length];(repeat' (first |refine A0 ?_ |refine AB ?_ |((refine rR (fun K kp hK hkp=>?_));simp(implicitDefEqProofs:=false) (maxSteps:=2000000) (disch:=omega) only[go_sem,zk,Ac];(repeat' (refine hK _ ?_;clear hK hkp kp K))) |refine A4 rfl ?_ |refine A8 ?_));(refine A7 (by(simp(implicitDefEqProofs:=false) (maxSteps:=2000000) (disch:=omega) only[go_sem,results45,AK]);rfl) ?_;refine(Cx hE [3] rfl ?_ ?_).s<;>simp[AG,AO,lk,ren,renL,A9,AL,AK])
end Go.AM
namespace Go.AM
open Go Go.RowKit
open Go.Proofs.YtekljlenlbhmcaaGreatDoor (AY AZ)
def Hs:TB:=⟨⟨#[]⟩,[],[],[],0⟩
noncomputable def Ge (ps:List PG)(root:Int)(k:Ky)(row:Int):List PG×Int×Int:=(HS ps root k row).choose
theorem Mf (ps:List PG)(root:Int)(k:Ky)(row:Int):D6 ps root k row≠0→Ge ps root k row=([],0,D6 ps root k row):=(HS ps root k row).choose_spec.1
theorem Me (ps:List PG)(root:Int)(k:Ky)(row:Int)(h0:D6 ps root k row=0)(r d:Nat)(e:root=r)(h:Trd ps r d):Ge ps root k row=LL ps k row r d:=by
 obtain⟨_,_,_,_,_,_,g⟩:=(HS ps root k row).choose_spec.2 h0;exact g r d e h
theorem Md {ps:List PG}(ho:BG ps)(root:Int)(k:Ky)(row:Int):BG (Ge ps root k row).1:=by
 by_cases h0:D6 ps root k row=0
 ·obtain⟨r,d,e,h,ha,_,_⟩:=(HS ps root k row).choose_spec.2 h0
  subst e;rw[Me ps r k row h0 r d rfl h];exact U3 h ho ha
 ·rw[Mf ps root k row h0]
  exact⟨Nat.zero_le _,fun p hp=>by cases hp⟩
noncomputable def C8:List PG→Int→Nat→List (List V)→List PG×Int×Int
 |ps,root,_,[]=>(ps,root,0)
 |ps,root,i,r::s=>if r.length=0 then C8 ps root (i+1) s else
  if (Ge ps root (C9 r) (i:Int)).2.2≠0 then ([],0,(Ge ps root (C9 r) (i:Int)).2.2) else C8 (Ge ps root (C9 r) (i:Int)).1 (Ge ps root (C9 r) (i:Int)).2.1 (i+1) s
theorem J9 {ps:List PG}{root:Int}{rows:List (List V)}{i:Nat}{r:List V}(h:rows[i]?=some r):C8 ps root i (rows.drop i)=if r.length=0 then C8 ps root (i+1) (rows.drop (i+1)) else
  if (Ge ps root (C9 r) (i:Int)).2.2≠0 then ([],0,(Ge ps root (C9 r) (i:Int)).2.2) else C8 (Ge ps root (C9 r) (i:Int)).1 (Ge ps root (C9 r) (i:Int)).2.1 (i+1) (rows.drop (i+1)):=by
 rw[BA h,C8]
theorem IV: ∀(rows:List (List V))(ps:List PG)(root:Int)(i:Nat),BG ps→BG (C8 ps root i rows).1
 | [],ps,root,i,h=>h
 |r::s,ps,root,i,h=>by
  rw[C8];split
  ·exact IV s ps root (i+1) h
  ·split
   ·exact⟨Nat.zero_le _,fun p hp=>by cases hp⟩
   ·exact IV s _ _ (i+1) (Md h _ _ _)
def CD (was:List (List V)):List (List V)→List Int→List (List V)
 |rows,[]=>rows
 |rows,i::s=>CD was (rows.set i.toNat (Dq was i.toNat)) s
def CX (n:Nat):List Int→Bool
 | []=>true
 |i::s=>if i<0∨(n:Int)≤i then false else CX n s
noncomputable def Gx (now was:TB)(sl:List Int):TB×Int:=
 if Ci now was=false then (Hs,11) else if CX now.rows.length sl=false then (Hs,3) else
 if (C8 [Lf] 0 0 (CD was.rows now.rows sl)).2.2≠0 then (Hs,(C8 [Lf] 0 0 (CD was.rows now.rows sl)).2.2) else
 (⟨now.nm,now.cols,CD was.rows now.rows sl,(C8 [Lf] 0 0 (CD was.rows now.rows sl)).1,(C8 [Lf] 0 0 (CD was.rows now.rows sl)).2.1⟩,0)
theorem Dh (was:List (List V)): ∀(sl:List Int)(rows:List (List V)),(CD was rows sl).length=rows.length
 | [],rows=>rfl
 |i::s,rows=>by rw[CD,Dh was s,List.length_set]
def HQ (r:List V):Prop:=XA r∧(r.length=0∨ ∃l,BS l r=0)
theorem Qw:HQ []:=⟨⟨Nat.zero_le _,fun v hv=>absurd hv List.not_mem_nil⟩,.inl rfl⟩
theorem I5 {en:List Et}{cols:List CO}: ∀ {i:Nat}{l:List (List V)},DQ en cols i l=true→ ∀r ∈ l,r.length=0∨ ∃l,BS l r=0
 |_,[],_,r,hr=>by cases hr
 |i,x::s,h,r,hr=>by
  rw[DQ] at h;split at h
  ·rename_i hx
   rcases List.mem_cons.1 hr with rfl |hr
   ·exact .inl hx
   ·exact I5 h r hr
  ·split at h
   ·rename_i hg
    rcases List.mem_cons.1 hr with rfl |hr
    ·rw[I7,Bool.and_eq_true,decide_eq_true_eq] at hg
     exact .inr ⟨cols,hg.1⟩
    ·exact I5 h r hr
   ·cases h
theorem D0 {t:TB}(ho:okTB t)(h:GX t=true): ∀r ∈ t.rows,HQ r:=fun r hr=>⟨ho.rs r hr,I5 (Rl h).rs r hr⟩
theorem Jq {rows:List (List V)}(h: ∀r ∈ rows,HQ r)(i:Nat):HQ (Dq rows i):=by
 rw[Dq,List.getD_eq_getElem?_getD]
 cases hq:rows[i]? with
 |none=>exact Qw
 |some q=>exact h q (List.mem_of_getElem? hq)
theorem Eh {was:List (List V)}(hw: ∀r ∈ was,HQ r): ∀(sl:List Int)(rows:List (List V)),(∀r ∈ rows,HQ r)→ ∀r ∈ CD was rows sl,HQ r
 | [],rows,h=>h
 |i::s,rows,h=>Eh hw s _ fun r hr=>by
  rcases List.mem_or_eq_of_mem_set hr with hr |rfl
  ·exact h r hr
  ·exact Jq hw _
theorem IB:BG [Lf]:=⟨by simp,fun p hp=>by
 obtain rfl:=List.mem_singleton.1 hp
 exact⟨by simp[Lf],by simp[Lf],by simp[Lf],fun k hk=>by simp[Lf] at hk⟩⟩
theorem MA:okTB Hs:=⟨by decide,Nat.zero_le _,fun c hc=>absurd hc List.not_mem_nil,Nat.zero_le _,fun r hr=>absurd hr List.not_mem_nil,⟨Nat.zero_le _,fun p hp=>absurd hp List.not_mem_nil⟩⟩
theorem Re {now was:TB}(hn:okTB now)(hw:okTB was)(sl:List Int):okTB (Gx now was sl).1:=by
 unfold Gx;split
 ·exact MA
 ·rename_i hs
  split
  ·exact MA
  ·split
   ·exact MA
   ·have hs:Ci now was=true:=by simpa using hs
    simp only[Ci,Bool.and_eq_true] at hs;have hk:=Eh (D0 hw hs.2.1) sl now.rows (D0 hn hs.1);exact⟨hn.nm,hn.cl,hn.cs,by simp only[Dh];exact hn.rl,fun r hr=>(hk r hr).1,IV _ _ _ _ IB⟩
def EP (R:TB×Int):AV:= .tup [.agg (Ac R.1),.r (.int .i64 R.2)]
end Go.AM
