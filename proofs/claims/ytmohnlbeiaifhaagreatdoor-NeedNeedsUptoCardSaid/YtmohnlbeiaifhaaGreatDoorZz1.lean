/- Texts of the law NeedNeeds, part 1: lemmas; what is proved stands in the last text. -/
import Derived.WalkKit
import Derived.StillTail
import Derived.OrdersHeld
import Derived.RegionTactic
import Derived.Laws.StructEq
import Derived.Laws.IdiomStrings
import Derived.Deep.AppendSrc
import Derived.Laws.IdiomCopy
import Derived.Deep.Upon
import Derived.MapKept
abbrev bF:=@List.getElem?_append_left
abbrev aA:=@List.getElem?_eq_some_iff
abbrev gL:=@List.getElem?_append
abbrev dV:=@List.getElem?_take
abbrev bI:=@List.getElem?_drop
abbrev aJ:=@Bool.and_eq_true
abbrev eH:=@Bool.not_eq_true'
abbrev aY:=@Nat.lt_of_lt_of_le
abbrev bL:=@Nat.le_trans
abbrev eD:=@Array.getElem?_setIfInBounds_self_of_lt
abbrev dX:=@Array.getElem?_setIfInBounds_ne
abbrev cL:=@Ne.symm
abbrev aQ:=@Go.Sem.run_bind
abbrev aL:=@Go.Result.andThen_ok
abbrev bS:=@List.all_eq_true
abbrev dE:=@Array.getD_eq_getD_getElem?
abbrev aM:=@Option.some.injEq
abbrev aF:=@Option.map_eq_some_iff
abbrev gM:=@List.mem_cons_of_mem
abbrev dH:=@Option.getD_some
abbrev aU:=@Nat.zero_le
abbrev eG:=@Bool.and_eq_false_iff
abbrev bM:=@List.getElem?_take_of_lt
abbrev dO:=@Nat.add_assoc
abbrev dS:=@List.getElem?_range
abbrev bT:=@Go.Sem.run_pure
abbrev bU:=@Bool.false_eq_true
abbrev gN:=@Array.ext'
abbrev dT:=@List.length_eq_one_iff
abbrev gO:=@Array.toList_extract
abbrev fP:=@List.extract_eq_take_drop
abbrev bD:=@Option.some.inj
abbrev cT:=@Array.length_toList
abbrev bJ:=@Nat.add_mul
abbrev bV:=@List.length_eq_zero_iff
abbrev cH:=@Prod.mk.injEq
abbrev dM:=@Bool.false_ne_true
abbrev aS:=@List.length_take
abbrev aN:=@List.take_of_length_le
abbrev aR:=@List.drop_of_length_le
abbrev fC:=@List.cons.injEq
abbrev bW:=@Array.getElem?_toList
abbrev fT:=@Option.isSome_iff_exists
abbrev fF:=@Array.getElem?_modify
abbrev aB:=@List.mem_of_getElem?
abbrev dP:=@List.flatten_cons
abbrev gP:=@Nat.zero_mul
abbrev bQ:=@List.getElem?_append_right
abbrev fU:=@List.zip_cons_cons
abbrev bA:=@List.mem_cons
abbrev aO:=@List.mem_iff_getElem?
abbrev fV:=@List.map_map
abbrev eB:=@List.ext_getElem?
abbrev bB:=@List.append_assoc
abbrev eL:=@Nat.le_of_eq
abbrev bP:=@Nat.mul_le_mul_right
abbrev fW:=@Nat.lt_or_ge
abbrev fI:=@Nat.mod_eq_of_lt
abbrev bR:=@Array.getElem?_eq_some_iff
abbrev gC:=@Go.IntWalk.i64_in
abbrev cI:=@List.mem_map
abbrev gD:=@List.size_toArray
abbrev cV:=@List.length_pos_iff
abbrev dQ:=@List.getElem?_set
abbrev cK:=@List.mem_append
abbrev aW:=@List.mem_singleton
set_option linter.unusedSimpArgs false
set_option linter.unusedVariables false
set_option maxRecDepth 100000
namespace Go.AM
open Go
inductive AV where
 |r (v:Value)
 |ro (t:Bool) (k:Nat) (els:List (List AV))
 |re (t:Bool) (c:List AV) (off:Nat)
 |s (n lo len:Nat)
 |p (n i off:Nat)
 |agg (c:List AV)
 |tup (c:List AV)
 |fn (f:Nat) (c:List AV)
 |ifc (t:Nat) (v:AV)
 |q (n:Nat)
 |u (T k:Nat) (els:List (List AV))
 |any
instance:Inhabited AV:=⟨.r undef⟩
structure NLoc where
 b:Nat
 o:Nat
 k:Nat
 cap:Nat
 ph:Bool:=false
abbrev AO:=Bool->Nat->Prop
inductive Rep (w:World)(z:AO):List NLoc->AV->Value->Prop
 |r (th:List NLoc) (v:Value):Rep w z th (.r v) v
 |nil (th:List NLoc) (t:Bool) (k:Nat) (a:Option Addr) (c:Nat):Rep w z th (.ro t k []) (.slice a 0 c)
 |ro (th:List NLoc) (t:Bool) (k:Nat) (els:List (List AV)) (b o c:Nat) (ys:Nat->Nat->Value) (hz:z t b) (hc:els.length≤c) (hk: ∀(i:Nat)(e:List AV),els[i]?=some e->e.length=k)
  (hy: ∀(i:Nat)(e:List AV)(j:Nat)(x:AV),els[i]?=some e->e[j]?=some x->w.cell? ⟨b,o+i * k+j,none⟩=some (ys i j))
  (h1: ∀(i:Nat)(e:List AV)(j:Nat)(x:AV),els[i]?=some e->e[j]?=some x->(ys i j).oneCell'=true)
  (hx: ∀(i:Nat)(e:List AV)(j:Nat)(x:AV),els[i]?=some e->e[j]?=some x->Rep w z [] x (ys i j)):Rep w z th (.ro t k els) (.slice (some ⟨b,o,none⟩) els.length c)
 |re (th:List NLoc) (t:Bool) (c:List AV) (b o off:Nat) (ys:Nat->Value) (hz:z t b) (hy: ∀(j:Nat)(x:AV),c[j]?=some x->w.cell? ⟨b,o+j,none⟩=some (ys j))
  (hx: ∀(j:Nat)(x:AV),c[j]?=some x->Rep w z [] x (ys j)):Rep w z th (.re t c off) (.pointer (some ⟨b,o+off,none⟩))
 |s (th:List NLoc) (n lo len c x:Nat) (L:NLoc) (hL:th[n]?=some L) (hp:L.ph=false) (hl:len≤c) (hc:lo+c≤L.cap) (hx:0<c→x=L.o+lo * L.k):
    Rep w z th (.s n lo len) (.slice (some ⟨L.b,x,none⟩) len c)
 |sn (th:List NLoc) (n lo:Nat) (L:NLoc) (hL:th[n]?=some L) (hp:L.ph=true):Rep w z th (.s n lo 0) (.slice none 0 0)
 |p (th:List NLoc) (n i off:Nat) (L:NLoc) (hL:th[n]?=some L):Rep w z th (.p n i off) (.pointer (some ⟨L.b,L.o+i * L.k+off,none⟩))
 |agg (th:List NLoc) (c:List AV) (ys:List Value) (hl:ys.length=c.length) (hx: ∀(i:Nat)(x:AV)(y:Value),c[i]?=some x->ys[i]?=some y->Rep w z th x y):Rep w z th (.agg c) (.agg ys.toArray)
 |tup (th:List NLoc) (c:List AV) (ys:List Value) (hl:ys.length=c.length) (hx: ∀(i:Nat)(x:AV)(y:Value),c[i]?=some x->ys[i]?=some y->Rep w z th x y):Rep w z th (.tup c) (.tuple ys.toArray)
 |fn (th:List NLoc) (f:Nat) (c:List AV) (ys:List Value) (hl:ys.length=c.length) (hx: ∀(i:Nat)(x:AV)(y:Value),c[i]?=some x->ys[i]?=some y->Rep w z th x y):Rep w z th (.fn f c) (.func (.func f) #[] ys.toArray)
 |ifc (th:List NLoc) (t:Nat) (x:AV) (v:Value) (hx:Rep w z th x v):Rep w z th (.ifc t x) (.iface t v)
 |q (th:List NLoc) (n:Nat) (L:NLoc) (hL:th[n]?=some L):Rep w z th (.q n) (.map (some L.b))
 |any (th:List NLoc) (v:Value):Rep w z th .any v
def Reps (w:World)(z:AO)(th:List NLoc)(c:List AV)(ys:List Value):Prop:=ys.length=c.length/\ ∀(i:Nat)(x:AV)(y:Value),c[i]?=some x->ys[i]?=some y->Rep w z th x y
structure Le (w:World)(z:AO)(w':World)(z':AO):Prop where
 sub: ∀t b,z t b->z' t b
 same: ∀t b,z t b->w'.heap[b]?=w.heap[b]?
theorem BO {w w':World}{b:Nat}(h:w'.heap[b]?=w.heap[b]?)(o:Nat):w'.cell? ⟨b,o,none⟩=w.cell? ⟨b,o,none⟩:=by
 unfold World.cell?;rw[h]
theorem Le.refl (w:World)(z:AO):Le w z w z:=⟨fun _ _ h=>h,fun _ _ _=>rfl⟩
theorem Ak {α:Type}{th:List α}{n:Nat}{L:α}(more:List α)(h:th[n]?=some L):(th++more)[n]?=some L:=by
 rw[bF];·exact h
 ·exact(aA.1 h).1
theorem Rep.mono {w w':World}{z z':AO}{th:List NLoc}{x:AV}{v:Value}(h:Rep w z th x v)(l:Le w z w' z'): ∀more:List NLoc,(th=[]->more=[])\/True->Rep w' z' (th++more) x v:=by
 induction h with
 |r th v=>intro more _;exact .r _ v
 |nil th t k a c=>intro more _;exact .nil _ t k a c
 |ro th t k els b o c ys hz hc hk hy ho hx ih=>intro more _;exact .ro _ t k els b o c ys (l.sub _ _ hz) hc hk (fun i e j x h1 h2=>(BO (l.same _ _ hz) _).trans (hy i e j x h1 h2)) ho (fun i e j x h1 h2=>by simpa using ih i e j x h1 h2 [] (.inr trivial))
 |re th t c b o off ys hz hy hx ih=>intro more _;exact .re _ t c b o off ys (l.sub _ _ hz) (fun j x h1=>(BO (l.same _ _ hz) _).trans (hy j x h1)) (fun j x h1=>by simpa using ih j x h1 [] (.inr trivial))
 |s th n lo len c x L hL hp hl hc hx=>intro more _;exact .s _ n lo len c x L (Ak _ hL) hp hl hc hx
 |sn th n lo L hL hp=>intro more _;exact .sn _ n lo L (Ak _ hL) hp
 |p th n i off L hL=>intro more _;exact .p _ n i off L (Ak _ hL)
 |agg th c ys hl hx ih=>intro more _;exact .agg _ c ys hl (fun i x y h1 h2=>ih i x y h1 h2 more (.inr trivial))
 |tup th c ys hl hx ih=>intro more _;exact .tup _ c ys hl (fun i x y h1 h2=>ih i x y h1 h2 more (.inr trivial))
 |fn th f c ys hl hx ih=>intro more _;exact .fn _ f c ys hl (fun i x y h1 h2=>ih i x y h1 h2 more (.inr trivial))
 |ifc th t x v hx ih=>intro more _;exact .ifc _ t x v (ih more (.inr trivial))
 |q th n L hL=>intro more _;exact .q _ n L (Ak _ hL)
 |any th v=>intro more _;exact .any _ v
theorem Rep.on {w w':World}{z z':AO}{th:List NLoc}{x:AV}{v:Value}(h:Rep w z th x v)(l:Le w z w' z')(more:List NLoc:=[]):Rep w' z' (th++more) x v:=h.mono l more (.inr trivial)
theorem Rep.on' {w w':World}{z z':AO}{th:List NLoc}{x:AV}{v:Value}(h:Rep w z th x v)(l:Le w z w' z'):Rep w' z' th x v:=by simpa using h.on l []
theorem Rep.pure {w:World}{z:AO}{x:AV}{v:Value}(th:List NLoc)(h:Rep w z [] x v):Rep w z th x v:=h.on (Le.refl w z) th
theorem Reps.on {w w':World}{z z':AO}{th:List NLoc}{c:List AV}{ys:List Value}(h:Reps w z th c ys)(l:Le w z w' z')(more:List NLoc:=[]):Reps w' z' (th++more) c ys:=⟨h.1,fun i x y h1 h2=>(h.2 i x y h1 h2).on l more⟩
theorem Reps.nil {w:World}{z:AO}{th:List NLoc}:Reps w z th [] []:=⟨rfl,fun i x y h=>by simp at h⟩
theorem Reps.cons {w:World}{z:AO}{th:List NLoc}{x:AV}{y:Value}{c:List AV}{ys:List Value}(h:Rep w z th x y)(r:Reps w z th c ys):Reps w z th (x::c) (y::ys):=by
 refine⟨by simp[r.1],fun i a b h1 h2=>?_⟩
 cases i with
 |zero=>simp at h1 h2;subst h1 h2;exact h
 |succ i=>simp at h1 h2;exact r.2 i a b h1 h2
theorem Reps.head {w:World}{z:AO}{th:List NLoc}{x:AV}{c:List AV}{ys:List Value}(r:Reps w z th (x::c) ys): ∃y ys',ys=y::ys'/\Rep w z th x y/\Reps w z th c ys':=by
 cases ys with
 |nil=>simp[Reps] at r
 |cons y ys'=>exact⟨y,ys',rfl,r.2 0 x y rfl rfl,by simpa using r.1,fun i a b h1 h2=>r.2 (i+1) a b (by simpa using h1) (by simpa using h2)⟩
theorem Reps.of_nil {w:World}{z:AO}{th:List NLoc}{ys:List Value}(r:Reps w z th [] ys):ys=[]:=by
 have:=r.1;simpa using this
theorem Reps.get {w:World}{z:AO}{th:List NLoc}{c:List AV}{ys:List Value}(r:Reps w z th c ys){i:Nat}{x:AV}(h:c[i]?=some x): ∃y,ys[i]?=some y/\Rep w z th x y:=by
 have hi:i<ys.length:=by rw[r.1];exact(aA.1 h).1
 exact⟨ys[i],by simp[hi],r.2 i x _ h (by simp[hi])⟩
theorem Reps.append {w:World}{z:AO}{th:List NLoc}{c d:List AV}{ys us:List Value}(r:Reps w z th c ys)(r':Reps w z th d us):Reps w z th (c++d) (ys++us):=by
 refine⟨by simp[r.1,r'.1],fun i x y h1 h2=>?_⟩;rw[gL] at h1 h2
 by_cases hi:i<c.length
 ·rw[if_pos hi] at h1;rw[if_pos (by rw[r.1];exact hi)] at h2;exact r.2 i x y h1 h2
 ·rw[if_neg hi] at h1;rw[if_neg (by rw[r.1];exact hi),r.1] at h2;exact r'.2 _ x y h1 h2
theorem Reps.take {w:World}{z:AO}{th:List NLoc}{c:List AV}{ys:List Value}(r:Reps w z th c ys)(n:Nat):Reps w z th (c.take n) (ys.take n):=by
 refine⟨by simp[r.1],fun i x y h1 h2=>?_⟩;rw[dV] at h1 h2;split at h1
 ·rename_i hi;rw[if_pos hi] at h2;exact r.2 i x y h1 h2
 ·cases h1
theorem Reps.drop {w:World}{z:AO}{th:List NLoc}{c:List AV}{ys:List Value}(r:Reps w z th c ys)(n:Nat):Reps w z th (c.drop n) (ys.drop n):=by
 refine⟨by simp[r.1],fun i x y h1 h2=>?_⟩;rw[bI] at h1 h2;exact r.2 _ x y h1 h2
def AV.cell1:AV->Bool
 | .agg _ | .tup _ | .any=>false
 | .r (.agg _) | .r (.tuple _)=>false
 |_=>true
def lk {α:Type}:List (Nat×α)->Nat->Option α
 | [],_=>none
 |(i,x)::r,j=>if i=j then some x else lk r j
inductive Nd where
 |box (T:TypeId) (c:List AV)
 |lst (T:TypeId) (k:Nat) (els:List (List AV))
 |ul (T:TypeId) (k:Nat) (els:List (List AV)) (op:List (Nat×Nat×AV))
 |mp (l:List Int)
def F0:List (Nat×Nat×AV)->Nat->Nat->Option AV
 | [],_,_=>none
 |(i,j,x)::r,i',j'=>if i=i'/\j=j' then some x else F0 r i' j'
def Nd.isU:Nd->Bool
 | .ul .. =>true
 |_=>false
def RN (cells:Array Value)(fr:Nat×Nat):Prop:= ∀i,i<cells.size+1-> ¬(fr.1≤i/\i<fr.2)
def NdAt (w:World)(z:AO)(th:List NLoc)(L:NLoc):Nd->Prop
 | .box T c=>L.ph=false/\ ∃cells fr,w.heap[L.b]?=some (.cells cells T fr)/\RN cells fr/\L.o=0/\Reps w z th c cells.toList
 | .lst T k els=>(L.ph=true/\els=[])\/(L.ph=false/\ ∃cells fr,w.heap[L.b]?=some (.cells cells T fr)/\RN cells fr/\L.k=k/\L.o+L.cap * L.k≤cells.size/\els.length≤L.cap/\
  ∀(i:Nat)(e:List AV),els[i]?=some e->e.length=L.k/\ ∀(j:Nat)(x:AV),e[j]?=some x-> ∃y,cells[L.o+i * L.k+j]?=some y/\Rep w z [] x y/\y.oneCell'=true)
 | .ul T k els _=>(L.ph=true/\els=[])\/(L.ph=false/\ ∃cells fr,w.heap[L.b]?=some (.cells cells T fr)/\RN cells fr/\L.k=k/\L.o+L.cap * L.k≤cells.size/\els.length≤L.cap/\ ∀(i:Nat)(e:List AV),els[i]?=some e->e.length=L.k)
 | .mp l=>L.ph=false/\ ∃es ck,w.heap[L.b]?=some (.map es ck)/\es.toList.map (·.key)=l.map (.int .i64 ·)/\ ∀e ∈ es.toList,e.val= .agg #[]
theorem NdAt.on {w w':World}{z z':AO}{th:List NLoc}{L:NLoc}{nd:Nd}(h:NdAt w z th L nd)(l:Le w z w' z')(hb:L.ph=false->w'.heap[L.b]?=w.heap[L.b]?)(more:List NLoc:=[]):NdAt w' z' (th++more) L nd:=by
 cases nd with
 |box T c=>obtain⟨hp,cells,fr,h1,h2,h3,h4⟩:=h;exact⟨hp,cells,fr,(hb hp).trans h1,h2,h3,h4.on l more⟩
 |lst T k els=>
  rcases h with h |⟨hp,cells,fr,h1,h2,h3,h4,h5,h6⟩
  ·exact .inl h
  ·exact .inr ⟨hp,cells,fr,(hb hp).trans h1,h2,h3,h4,h5,fun i e he=>⟨(h6 i e he).1,fun j x hx=>let ⟨y,hy,hr,h1⟩:=(h6 i e he).2 j x hx;⟨y,hy,hr.on' l,h1⟩⟩⟩
 |ul T k els op=>
  rcases h with h |⟨hp,cells,fr,h1,h2⟩
  ·exact .inl h
  ·exact .inr ⟨hp,cells,fr,(hb hp).trans h1,h2⟩
 |mp l=>obtain⟨hp,es,ck,h1,h2⟩:=h;exact⟨hp,es,ck,(hb hp).trans h1,h2⟩
inductive UC (w:World)(z:AO):(Nat->Prop)->AV->Value->Prop
 |r (f:Nat->Prop) (x:AV) (v:Value) (h:Rep w z [] x v):UC w z f x v
 |n (f:Nat->Prop) (T k:Nat):UC w z f (.u T k []) (.slice none 0 0)
 |u (f:Nat→Prop) (T k:Nat) (els:List (List AV)) (b o c:Nat) (cells:Array Value) (fr:Nat×Nat) (F:Nat→Nat→Nat→Prop) (ys:Nat→Nat→Value) (hb:w.heap[b]?=some (.cells cells T fr)) (hf:RN cells fr) (hl:els.length≤c) (hs:0<c→o+c * k≤cells.size)
    (hfb:f b) (hF: ∀i j b',F i j b'->f b'/\b'≠b) (hd: ∀i j i' j' b',F i j b'->F i' j' b'->i=i'/\j=j') (hk: ∀(i:Nat)(e:List AV),els[i]?=some e->e.length=k) (hy: ∀(i:Nat)(e:List AV)(j:Nat)(x:AV),els[i]?=some e->e[j]?=some x->cells[o+i * k+j]?=some (ys i j))
    (h1: ∀(i:Nat)(e:List AV)(j:Nat)(x:AV),els[i]?=some e->e[j]?=some x->(ys i j).oneCell'=true) (hx: ∀(i:Nat)(e:List AV)(j:Nat)(x:AV),els[i]?=some e->e[j]?=some x->UC w z (F i j) x (ys i j)):UC w z f (.u T k els) (.slice (some ⟨b,o,none⟩) els.length c)
theorem UC.on {w w':World}{z z':AO}{f:Nat->Prop}{x:AV}{v:Value}(h:UC w z f x v)(l:Le w z w' z'):(∀b,f b->w'.heap[b]?=w.heap[b]?)->UC w' z' f x v:=by
 induction h with
 |r f x v h=>intro _;exact .r f x v (h.on' l)
 |n f T k=>intro _;exact .n f T k
 |u f T k els b o c cells fr F ys hb hf hl hs hfb hF hd hk hy h1 hx ih=>intro hs';exact .u f T k els b o c cells fr F ys ((hs' b hfb).trans hb) hf hl hs hfb hF hd hk hy h1 (fun i e j x h1 h2=>ih i e j x h1 h2 (fun b' hb'=>hs' b' (hF _ _ _ hb').1))
theorem UC.sub {w:World}{z:AO}{f g:Nat->Prop}{x:AV}{v:Value}(h:UC w z f x v)(hg: ∀b,f b->g b):UC w z g x v:=by
 cases h with
 |r _ _ _ h=>exact .r g _ _ h
 |n _ T k=>exact .n g T k
 |u _ T k els b o c cells fr F ys hb hf hl hs hfb hF hd hk hy h1 hx=>exact .u g T k els b o c cells fr F ys hb hf hl hs (hg _ hfb) (fun i j b' h=>⟨hg _ (hF i j b' h).1,(hF i j b' h).2⟩) hd hk hy h1 hx
def CellU (w:World)(z:AO)(th:List NLoc)(f:Nat->Prop)(op:List (Nat×Nat×AV))(i j:Nat)(x:AV)(y:Value):Prop:=match F0 op i j with
 |some x'=>Rep w z th x' y
 |none=>UC w z f x y
def UlAt (w:World)(z:AO)(th:List NLoc)(f:Nat->Prop)(L:NLoc)(els:List (List AV))(op:List (Nat×Nat×AV)):Prop:=
 ∃F:Nat->Nat->Nat->Prop,(∀i j b,F i j b->f b)/\(∀i j i' j' b,F i j b->F i' j' b->i=i'/\j=j')/\ ∀(i:Nat)(e:List AV),els[i]?=some e-> ∀(j:Nat)(x:AV),e[j]?=some x-> ∃y,w.cell? ⟨L.b,L.o+i * L.k+j,none⟩=some y/\y.oneCell'=true/\CellU w z th (F i j) op i j x y
theorem CellU.on {w w':World}{z z':AO}{th:List NLoc}{f:Nat->Prop}{op:List (Nat×Nat×AV)}{i j:Nat}{x:AV}{y:Value}(h:CellU w z th f op i j x y)(l:Le w z w' z')(hs: ∀b,f b->w'.heap[b]?=w.heap[b]?)(more:List NLoc:=[]):CellU w' z' (th++more) f op i j x y:=by
 unfold CellU at h ⊢;split at h
 ·exact h.on l more
 ·exact h.on l hs
theorem UlAt.on {w w':World}{z z':AO}{th:List NLoc}{f:Nat->Prop}{L:NLoc}{els:List (List AV)}{op:List (Nat×Nat×AV)}(h:UlAt w z th f L els op)(l:Le w z w' z')(hs: ∀b,f b->w'.heap[b]?=w.heap[b]?)(hb:els=[]\/w'.heap[L.b]?=w.heap[L.b]?)(more:List NLoc:=[]):UlAt w' z' (th++more) f L els op:=by
 obtain⟨F,h1,h2,h3⟩:=h;refine⟨F,h1,h2,fun i e he j x hx=>?_⟩;obtain⟨y,hy,ho,hc⟩:=h3 i e he j x hx
 rcases hb with rfl |hb
 ·simp at he
 ·exact⟨y,(BO hb _).trans hy,ho,hc.on l (fun b hb=>hs b (h1 _ _ _ hb)) more⟩
structure Env where
 w0:World
 own:Nat->Prop
 z0:AO
 G:List (Nat×List Value)
 th0:List NLoc
 ds:List Deferred
def Sys (w w':World):Prop:=w'.os=w.os/\w'.tape=w.tape/\w'.output=w.output
theorem Sys.refl (w:World):Sys w w:=⟨rfl,rfl,rfl⟩
theorem Sys.trans {a b c:World}(h:Sys a b)(h':Sys b c):Sys a c:=⟨h'.1.trans h.1,h'.2.1.trans h.2.1,h'.2.2.trans h.2.2⟩
structure UlOK (U:Nat->Nat->Prop)(E:Env)(o:List (Nat×Nd))(th:List NLoc)(z:AO)(w:World):Prop where
 at_: ∀i T k els op L,lk o i=some (.ul T k els op)->th[i]?=some L->UlAt w z th (U i) L els op
 lt: ∀i b,U i b->b<w.heap.size
 nz: ∀i b,U i b-> ∀t,¬z t b
 ow: ∀i b,U i b->E.own b\/E.w0.heap.size≤b
 inj: ∀i j b,U i b->U j b->i=j
 kn: ∀i nd L j,lk o i=some nd->th[i]?=some L->L.ph=false-> ¬U j L.b
structure Mem (E:Env)(o:List (Nat×Nd))(n:Nat)(th:List NLoc)(z:AO)(w:World):Prop where
 len:th.length=n
 nds: ∀i nd,lk o i=some nd-> ∃L,th[i]?=some L/\NdAt w z th L nd/\(L.ph=false->L.b<w.heap.size/\(∀t,¬z t L.b)/\(E.own L.b\/E.w0.heap.size≤L.b))
 inj: ∀i j x y L M,lk o i=some x->lk o j=some y->th[i]?=some L->th[j]?=some M->L.ph=false->M.ph=false->L.b=M.b->i=j
 zlt: ∀t b,z t b->b<w.heap.size
 grow:E.w0.heap.size≤w.heap.size
 frame: ∀b,b<E.w0.heap.size-> ¬E.own b->w.heap[b]?=E.w0.heap[b]?
 zin: ∀t b,E.z0 t b->z t b
 zout: ∀b,z true b->E.z0 true b\/E.own b\/E.w0.heap.size≤b
 zb: ∀b,z false b->E.z0 false b
 globs: ∀g cs,(g,cs) ∈ E.G->z true g/\ ∀(j:Nat) v,cs[j]?=some v->w.cell? ⟨g,j,none⟩=some v
 pre: ∀(i:Nat) L,E.th0[i]?=some L->th[i]?=some L
 sys:Sys E.w0 w
 uls: ∃U,UlOK U E o th z w
def Km:List (Nat×Nd)->Bool
 | []=>true
 |p::r=> !p.2.isU&&Km r
theorem Pr: ∀ {o:List (Nat×Nd)}{i:Nat}{nd:Nd},Km o=true->lk o i=some nd->nd.isU=false
 | [],i,nd,_,h=>by simp[lk] at h
 |(j,x)::r,i,nd,hc,h=>by
  simp only[Km,aJ,eH] at hc;simp only[lk] at h;split at h
  ·cases h;exact hc.1
  ·exact Pr hc.2 h
theorem LP {E:Env}{o:List (Nat×Nd)}{th:List NLoc}{z:AO}{w:World}(h:Km o=true): ∃U,UlOK U E o th z w:=
 ⟨fun _ _=>False,fun i T k els op L hi=>(by have:=Pr h hi;cases this),fun _ _ h=>h.elim,fun _ _ h=>h.elim,fun _ _ h=>h.elim,fun _ _ _ h=>h.elim,fun _ _ _ _ _ _ _ h=>h.elim⟩
theorem NdAt.ul_nil {w:World}{z:AO}{th:List NLoc}{L:NLoc}{T:TypeId}{k:Nat}{els:List (List AV)}{op:List (Nat×Nat×AV)}(h:NdAt w z th L (.ul T k els op)):els=[]\/L.ph=false:=by
 rcases h with ⟨_,h⟩ |⟨h,_⟩
 ·exact .inl h
 ·exact .inr h
theorem UlOK.on {U:Nat->Nat->Prop}{E:Env}{o o':List (Nat×Nd)}{th:List NLoc}{z z':AO}{w w':World}(h:UlOK U E o th z w)(l:Le w z w' z')(hsz:w.heap.size≤w'.heap.size)(hs: ∀i b,U i b->w'.heap[b]?=w.heap[b]?)(hz: ∀i b,U i b-> ∀t,¬z' t b)
  (ho: ∀i T k els op,lk o' i=some (.ul T k els op)->lk o i=some (.ul T k els op)/\ ∀L,th[i]?=some L->els=[]\/w'.heap[L.b]?=w.heap[L.b]?) (more:List NLoc) (hi: ∀i nd,lk o' i=some nd->i<th.length\/ ∀T k els op,nd≠ .ul T k els op)
  (hk: ∀i nd L j,lk o' i=some nd->(th++more)[i]?=some L->L.ph=false-> ¬U j L.b):UlOK U E o' (th++more) z' w':=by
 refine⟨fun i T k els op L h1 h2=>?_,fun i b hb=>aY (h.lt i b hb) hsz,hz,h.ow,h.inj,hk⟩;obtain⟨h3,h4⟩:=ho i T k els op h1
 rcases hi i _ h1 with hlt |hne
 ·rw[bF hlt] at h2
  exact(h.at_ i T k els op L h3 h2).on l (hs i) (h4 L h2) more
 ·exact(hne T k els op rfl).elim
structure AS where
 m:List (Nat×AV)
 o:List (Nat×Nd)
 n:Nat
def AS.put (st:AS)(d:Option Nat)(x:AV):AS:=match d with
 |some d=>{st with m:=(d,x)::st.m}
 |none=>st
structure Sim (E:Env)(N:Nat)(st:AS)(th:List NLoc)(z:AO)(a:Act)(w:World):Prop where
 mem:Mem E st.o st.n th z w
 size:a.tmps.size=N
 dfs:a.defers=E.ds
 slots: ∀i x,lk st.m i=some x-> ∃y,a.tmps[i]?=some y/\Rep w z th x y
structure Ext (w w':World):Prop where
 size:w.heap.size≤w'.heap.size
 same: ∀b,b<w.heap.size->w'.heap[b]?=w.heap[b]?
 sys:Sys w w'
theorem Ext.refl (w:World):Ext w w:=⟨Nat.le_refl _,fun _ _=>rfl,Sys.refl w⟩
theorem Ext.trans {a b c:World}(h:Ext a b)(h':Ext b c):Ext a c:=⟨bL h.size h'.size,fun x hx=>(h'.same x (aY hx h.size)).trans (h.same x hx),h.sys.trans h'.sys⟩
theorem Ext.le {w w':World}{z z':AO}(h:Ext w w')(hz: ∀t b,z t b->z' t b)(hlt: ∀t b,z t b->b<w.heap.size):Le w z w' z':=⟨hz,fun t b hb=>h.same b (hlt t b hb)⟩
structure ExtT (th:List NLoc)(ts:List Nat)(w w':World):Prop where
 size:w.heap.size≤w'.heap.size
 same: ∀b,b<w.heap.size->(∀n ∈ ts,∀L,th[n]?=some L->L.ph=false->L.b≠b)->w'.heap[b]?=w.heap[b]?
 sys:Sys w w'
theorem Ext.t {th:List NLoc}{ts:List Nat}{w w':World}(h:Ext w w'):ExtT th ts w w':=⟨h.size,fun b hb _=>h.same b hb,h.sys⟩
theorem ExtT.ext {th:List NLoc}{w w':World}(h:ExtT th [] w w'):Ext w w':=⟨h.size,fun b hb=>h.same b hb (fun _ hn=>by cases hn),h.sys⟩
def Later (th th':List NLoc):Prop:= ∀(i:Nat) L,th[i]?=some L->th'[i]?=some L
theorem Later.refl (th:List NLoc):Later th th:=fun _ _ h=>h
theorem Later.trans {a b c:List NLoc}(h:Later a b)(h':Later b c):Later a c:=fun i L hi=>h' i L (h i L hi)
theorem BX (th more:List NLoc):Later th (th++more):=fun _ _ h=>Ak _ h
theorem Mem.ext {E:Env}{o:List (Nat×Nd)}{n:Nat}{th:List NLoc}{z:AO}{w w':World}(h:Mem E o n th z w)(e:Ext w w'):Mem E o n th z w':=by
 have l:Le w z w' z:=e.le (fun _ _ h=>h) h.zlt;refine⟨h.len,fun i nd hi=>?_,h.inj,fun t b hb=>aY (h.zlt t b hb) e.size,bL h.grow e.size,fun b hb ho=>?_,h.zin,h.zout,h.zb,fun g cs hg=>?_,h.pre,h.sys.trans e.sys,?_⟩
 ·obtain⟨L,h1,h2,h3⟩:=h.nds i nd hi
  exact⟨L,h1,by simpa using h2.on l (fun hp=>e.same _ (h3 hp).1) [],fun hp=>⟨aY (h3 hp).1 e.size,(h3 hp).2⟩⟩
 ·exact(e.same b (aY hb h.grow)).trans (h.frame b hb ho)
 ·obtain⟨h1,h2⟩:=h.globs g cs hg
  exact⟨h1,fun j v hv=>(BO (e.same _ (h.zlt _ _ h1)) _).trans (h2 j v hv)⟩
 ·obtain⟨U,hU⟩:=h.uls
  refine⟨U,List.append_nil th▸hU.on (o':=o) l e.size (fun i b hb=>e.same b (hU.lt i b hb)) hU.nz (fun i T k els op hi=>⟨hi,fun L hL=>?_⟩) [] (fun i nd hi=> .inl ?_) (by simpa using hU.kn)⟩
  ·obtain⟨L',h1,h2,h3⟩:=h.nds i _ hi
   rw[hL] at h1;cases h1
   rcases h2.ul_nil with h4 |h4
   ·exact .inl h4
   ·exact .inr (e.same _ (h3 h4).1)
  ·obtain⟨L',h1,_⟩:=h.nds i _ hi
   exact(aA.1 h1).1
theorem Sim.ext {E:Env}{N:Nat}{st:AS}{th:List NLoc}{z:AO}{a:Act}{w w':World}(h:Sim E N st th z a w)(e:Ext w w'):Sim E N st th z a w':=
 ⟨h.mem.ext e,h.size,h.dfs,fun i x hi=>let ⟨y,hy,hr⟩:=h.slots i x hi;⟨y,hy,hr.on' (e.le (fun _ _ h=>h) h.mem.zlt)⟩⟩
theorem Sim.put {E:Env}{N:Nat}{st:AS}{th:List NLoc}{z:AO}{a:Act}{w:World}(h:Sim E N st th z a w){x:AV}{v:Value}(hr:Rep w z th x v)(d:Option Nat)(hd: ∀i,d=some i->i<N):Sim E N (st.put d x) th z (a.put d v) w:=by
 cases d with
 |none=>exact h
 |some d=>
  refine⟨h.mem,by simp[Act.put,h.size],by simp[Act.put,h.dfs],fun i y hi=>?_⟩;simp only[AS.put,lk] at hi;simp only[Act.put]
  by_cases he:d=i
  ·subst he
   rw[if_pos rfl] at hi;cases hi;exact⟨v,by rw[eD];rw[h.size];exact hd _ rfl,hr⟩
  ·rw[if_neg he] at hi
   obtain⟨u,hu,hr'⟩:=h.slots i y hi;exact⟨u,by rw[dX he];exact hu,hr'⟩
theorem Mem.add {E:Env}{o:List (Nat×Nd)}{n:Nat}{th:List NLoc}{z:AO}{w w':World}(h:Mem E o n th z w)(e:Ext w w')(L:NLoc)(nd:Nd)(hb:w.heap.size≤L.b)(hb':L.b<w'.heap.size)(hn:NdAt w' z (th++[L]) L nd)
  (hu: ∀T k els op,nd= .ul T k els op->UlAt w' z (th++[L]) (fun _=>False) L els op):Mem E ((n,nd)::o) (n+1) (th++[L]) z w':=by
 have h':=h.ext e;have l:Le w' z w' z:=Le.refl _ _
 have hget:(th++[L])[n]?=some L:=by rw[<-h.len];simp
 refine⟨by simp[h.len],fun i y hi=>?_,fun i j x y M M' hi hj hM hM' hp hp' hbb=>?_,h'.zlt,h'.grow,h'.frame,h'.zin,h'.zout,h'.zb,h'.globs,fun i L hi=>Ak _ (h.pre i L hi),h'.sys,?_⟩
 ·simp only[lk] at hi
  by_cases he:n=i
  ·subst he
   rw[if_pos rfl] at hi;cases hi;exact⟨L,hget,hn,fun _=>⟨hb',fun t hz=>by have:=h.zlt _ _ hz;omega,.inr (bL h.grow hb)⟩⟩
  ·rw[if_neg he] at hi
   obtain⟨M,h1,h2,h3⟩:=h'.nds i y hi;exact⟨M,Ak _ h1,h2.on l (fun _=>rfl) [L],h3⟩
 ·have old: ∀i x M,lk ((n,nd)::o) i=some x->(th++[L])[i]?=some M->M.ph=false->(i=n/\M=L)\/(∃x,lk o i=some x/\th[i]?=some M/\M.b<w.heap.size):=by
   intro i x M hi hM hp;simp only[lk] at hi
   by_cases he:n=i
   ·subst he;rw[hget] at hM;cases hM;exact .inl ⟨rfl,rfl⟩
   ·rw[if_neg he] at hi
    obtain⟨M',h1,_,h3⟩:=h.nds i x hi;have:=Ak [L] h1;rw[this] at hM;cases hM;exact .inr ⟨x,hi,h1,(h3 hp).1⟩
  rcases old i x M hi hM hp with ⟨rfl,rfl⟩ |⟨x1,a1,b1,c1⟩<;>rcases old j y M' hj hM' hp' with ⟨rfl,rfl⟩ |⟨x2,a2,b2,c2⟩
  ·rfl
  ·omega
  ·omega
  ·exact h.inj i j x1 x2 M M' a1 a2 b1 b2 hp hp' hbb
 ·obtain⟨U,hU⟩:=h'.uls
  obtain⟨V,hV⟩:=h.uls;refine⟨fun i b=>i≠n/\V i b,⟨fun i T k els op M hi hM=>?_,fun i b hb=>aY (hV.lt i b hb.2) e.size,fun i b hb=>hV.nz i b hb.2,fun i b hb=>hV.ow i b hb.2,fun i j b hb hc=>hV.inj i j b hb.2 hc.2,fun i nd' M j hi hM hp hb=>?_⟩⟩
  ·simp only[lk] at hi
   by_cases he:n=i
   ·subst he
    rw[if_pos rfl] at hi;cases hi;rw[hget] at hM;cases hM;obtain⟨F,h1,h2,h3⟩:=hu T k els op rfl;exact⟨F,fun i j b hb=>(h1 i j b hb).elim,h2,h3⟩
   ·rw[if_neg he] at hi
    obtain⟨M',k1,k2,k3⟩:=h.nds i _ hi;have:=Ak [L] k1;rw[this] at hM;cases hM
    have h5:els=[]\/w'.heap[M.b]?=w.heap[M.b]?:=by
     rcases k2.ul_nil with h4 |h4
     ·exact .inl h4
     ·exact .inr (e.same _ (k3 h4).1)
    obtain⟨F,h1,h2,h3⟩:=(hV.at_ i T k els op M hi k1).on (e.le (fun _ _ h=>h) h.zlt) (fun b hb=>e.same b (hV.lt i b hb)) h5 [L];exact⟨F,fun i' j b hb=>⟨cL he,h1 i' j b hb⟩,h2,h3⟩
  ·simp only[lk] at hi
   by_cases he:n=i
   ·subst he
    rw[hget] at hM;cases hM;have:=hV.lt j _ hb.2;omega
   ·rw[if_neg he] at hi
    obtain⟨M',k1,k2,k3⟩:=h.nds i _ hi;have:=Ak [L] k1;rw[this] at hM;cases hM;exact hV.kn i _ _ j hi k1 hp hb.2
inductive TK where
 |bool |int (k:IntKind) |str |ptr (e:Nat) |slice (e:Nat) |arr (n e:Nat) |map (k e:Nat) |struct (fs:List (Nat×Nat)) |func |ifc |other
structure TY where
 k:TK
 size:Nat
 bytes:Nat
 zero:Option (List Value)
def TK.agg:TK->Bool
 | .struct _ | .arr _ _=>true
 |_=>false
def LY (P:Program)(T:TypeId):Nat:=match P.info? T with |some i=>i.size |none=>0
def Kg (P:Program):TypeDesc->TK
 | .bool=> .bool
 | .int k=> .int k
 | .string=> .str
 | .pointer e=> .ptr e
 | .slice e=> .slice e
 | .array n e=> .arr n e
 | .map k e=> .map k e
 | .struct fs=> .struct (fs.toList.map fun f=>(f.offset,LY P f.type))
 | .func _ _ _=> .func
 | .interface _=> .ifc
 |_=> .other
def A0g (P:Program):TypeDesc->Bool
 | .struct fs=>fs.toList.all fun f=>(P.info? f.type).isSome
 |_=>true
def AK (P:Program)(T:TypeId):Option TY:=
 match P.info? T,P.underlying T with
 |some i,some d=>if A0g P d=true then some ⟨Kg P d,i.size,i.bytes,i.zero.map fun v=>v.cells.toList⟩ else none
 |_,_=>none
section
variable {P:Program} {T:TypeId} {y:TY} {w:World}
theorem LQ (h:AK P T=some y): ∃i d,P.info? T=some i/\P.underlying T=some d/\A0g P d=true/\y=⟨Kg P d,i.size,i.bytes,i.zero.map fun v=>v.cells.toList⟩:=by
 unfold AK at h;split at h
 ·rename_i i d h1 h2
  split at h
  ·rename_i h3;cases h;exact⟨i,d,h1,h2,h3,rfl⟩
  ·cases h
 ·cases h
theorem BE (h:AK P T=some y): ∃i d,P.info? T=some i/\P.underlying T=some d/\y=⟨Kg P d,i.size,i.bytes,i.zero.map fun v=>v.cells.toList⟩:=by
 obtain⟨i,d,h1,h2,_,h3⟩:=LQ h;exact⟨i,d,h1,h2,h3⟩
theorem Cw {i:TypeInfo}(h:P.info? T=some i):(typeInfo T).run P w= .ok i w:=by
 simp[typeInfo,h]
theorem AD {d:TypeDesc}(h:P.underlying T=some d):(underlying T).run P w= .ok d w:=by
 simp[underlying,h]
theorem As (h:AK P T=some y):(sizeOf T).run P w= .ok y.size w:=by
 obtain⟨i,d,h1,h2,rfl⟩:=BE h;simp[sizeOf,Cw h1]
theorem HQ (h:AK P T=some y):(isAgg T).run P w= .ok y.k.agg w:=by
 obtain⟨i,d,h1,h2,rfl⟩:=BE h;simp only[isAgg,aQ,AD h2,aL]
 cases d<;>simp[Kg,TK.agg]
theorem PK (h:AK P T=some y)(hk:y.k= .bool):P.underlying T=some .bool:=by
 obtain⟨i,d,h1,h2,rfl⟩:=BE h;cases d<;>simp[Kg] at hk;exact h2
theorem ER {k:IntKind}(h:AK P T=some y)(hk:y.k= .int k):P.underlying T=some (.int k):=by
 obtain⟨i,d,h1,h2,rfl⟩:=BE h;cases d<;>simp[Kg] at hk;subst hk;exact h2
theorem FJ (h:AK P T=some y)(hk:y.k= .str):P.underlying T=some .string:=by
 obtain⟨i,d,h1,h2,rfl⟩:=BE h;cases d<;>simp[Kg] at hk;exact h2
theorem Aj {e:Nat}(h:AK P T=some y)(hk:y.k= .slice e):P.underlying T=some (.slice e):=by
 obtain⟨i,d,h1,h2,rfl⟩:=BE h;cases d<;>simp[Kg] at hk;subst hk;exact h2
theorem Ib {n e:Nat}(h:AK P T=some y)(hk:y.k= .arr n e):P.underlying T=some (.array n e):=by
 obtain⟨i,d,h1,h2,rfl⟩:=BE h;cases d<;>simp[Kg] at hk;obtain⟨rfl,rfl⟩:=hk;exact h2
theorem Kv (h:AK P T=some y)(hk:y.k= .ifc): ∃ms,P.underlying T=some (.interface ms):=by
 obtain⟨i,d,h1,h2,rfl⟩:=BE h;cases d<;>simp[Kg] at hk;exact⟨_,h2⟩
theorem OJ {n e:Nat}(h:AK P T=some y)(hk:y.k= .map n e):P.underlying T=some (.map n e):=by
 obtain⟨i,d,h1,h2,rfl⟩:=BE h;cases d<;>simp[Kg] at hk;obtain⟨rfl,rfl⟩:=hk;exact h2
theorem LO {fs:List (Nat×Nat)}(h:AK P T=some y)(hk:y.k= .struct fs): ∃gs:Array Field,P.underlying T=some (.struct gs)/\(fs=gs.toList.map fun f=>(f.offset,LY P f.type))/\ ∀f ∈ gs.toList,(P.info? f.type).isSome=true:=by
 obtain⟨i,d,h1,h2,h3,rfl⟩:=LQ h
 cases d<;>simp only[Kg] at hk<;>try cases hk
 rename_i gs;exact⟨gs,h2,rfl,bS.1 h3⟩
theorem PJ (h:AK P T=some y)(hk:y.k≠ .ifc): ∃d,P.underlying T=some d/\ ∀ms,d≠ .interface ms:=by
 obtain⟨i,d,h1,h2,rfl⟩:=BE h;exact⟨d,h2,fun ms e=>by subst e;exact hk rfl⟩
end
def ev (st:AS)(G:List (Nat×List Value)):Operand->Option AV
 | .tmp t=>lk st.m t
 | .const v=>some (.r v)
 | .global g=>(lk G g).map fun cs=> .re true (cs.map .r) 0
 | .func f=>some (.fn f [])
def FV (st:AS)(G:List (Nat×List Value)):List Operand->Option (List AV)
 | []=>some []
 |x::r=>match ev st G x,FV st G r with
  |some a,some l=>some (a::l)
  |_,_=>none
def unU:AV->AV
 | .u _ _ _=> .any
 |x=>x
def Yu (op:List (Nat×Nat×AV))(i:Nat):Nat->List AV->List AV
 |_,[]=>[]
 |j,x::r=>(match F0 op i j with
  |some y=>y
  |none=>unU x)::Yu op i (j+1) r
def Hj (st:AS):AV->Option (List AV×Nat)
 | .re _ c off=>some (c,off)
 | .p n i off=>match lk st.o n with
   |some (.box _ c)=>if i=0 then some (c,off) else none
   |some (.lst _ _ els)=>(els[i]?).map fun e=>(e,off)
   |some (.ul _ _ els op)=>(els[i]?).map fun e=>(Yu op i 0 e,off)
   |some (.mp _)=>none
   |none=>none
 |_=>none
def KI (y:TY)(c:List AV)(off:Nat):Option AV:=
 if y.k.agg=true then (if off+y.size≤c.length then some (.agg ((c.drop off).take y.size)) else none)
 else c[off]?
def Jh (d:Nat):AV->Option AV
 | .re t c off=>some (.re t c (off+d))
 | .p n i off=>some (.p n i (off+d))
 |_=>none
def Mt:AV->Option Bool
 | .r (.bool x)=>some x
 |_=>none
def OV (c:Bool)(a b:AV):AV:=match Mt a,Mt b with
 |some x,some y=> .r (.bool (bif c then x else y))
 |_,_=>bif c then a else b
def Hn:AV->Option AV
 | .ro _ _ els=>some (.r (.int .i64 els.length))
 | .s _ _ len=>some (.r (.int .i64 len))
 | .r (.slice none 0 0)=>some (.r (.int .i64 0))
 |_=>none
def Z6 (st:AS):AV->Option AV
 | .q n=>match lk st.o n with
   |some (.mp l)=>some (.r (.int .i64 l.length))
   |_=>none
 |_=>none
def Vg (st:AS)(x:AV):TK->Option AV
 | .slice _=>Hn x
 | .map _ _=>Z6 st x
 | .str=>match x with
   | .r (.string s)=>some (.r (.int .i64 s.size))
   |_=>none
 | .arr n _=>some (.r (.int .i64 n))
 |_=>none
def AC (b:UInt8):List AV:=[.r (.int .u8 b.toNat)]
def Xz:List (List AV)->Option (List UInt8)
 | []=>some []
 | [.r (.int .u8 n)]::r=>match Xz r with
   |some l=>if n=(UInt8.ofNat n.toNat).toNat then some (UInt8.ofNat n.toNat::l) else none
   |none=>none
 |_::_=>none
theorem Fz (bs:List UInt8):Xz (bs.map AC)=some bs:=by
 induction bs with
 |nil=>rfl
 |cons b r ih=>simp[Xz,AC] at ih ⊢;simp[ih]
def D1 (st:AS)(k:Nat):AV->Option (List (List AV))
 | .ro _ k' els=>if k'=k then some els else none
 | .s n lo len=>match lk st.o n with
   |some (.lst _ k' els)=>if k'=k/\lo+len≤els.length then some ((els.drop lo).take len) else none
   |_=>none
 | .r (.slice _ 0 _)=>some []
 |_=>none
def ZV (k:IntKind)(a b:Int):Int:=k.wrap (BitVec.ofInt k.bits a &&& BitVec.ofInt k.bits b).toNat
def bOr (k:IntKind)(a b:Int):Int:=k.wrap (BitVec.ofInt k.bits a ||| BitVec.ofInt k.bits b).toNat
def ZU (k:IntKind)(a b:Int):Int:=k.wrap (BitVec.ofInt k.bits a ^^^ BitVec.ofInt k.bits b).toNat
def A0X (k:IntKind)(a b:Int):Int:=k.wrap (a * 2 ^ (min b.toNat k.bits))
def Pe (k:IntKind)(a b:Int):Int:=a.fdiv (2 ^ (min b.toNat k.bits))
def XU:BinOp->IntKind->Int->Int->Option AV
 | .add,k,a,b=>some (.r (.int k (k.wrap (a+b))))
 | .sub,k,a,b=>some (.r (.int k (k.wrap (a - b))))
 | .mul,k,a,b=>some (.r (.int k (k.wrap (a * b))))
 | .quo,k,a,b=>if b=0 then none else some (.r (.int k (k.wrap (a.tdiv b))))
 | .rem,k,a,b=>if b=0 then none else some (.r (.int k (a.tmod b)))
 | .eql,_,a,b=>some (.r (.bool (a==b)))
 | .neq,_,a,b=>some (.r (.bool (a !=b)))
 | .lss,_,a,b=>some (.r (.bool (decide (a<b))))
 | .leq,_,a,b=>some (.r (.bool (decide (a≤b))))
 | .gtr,_,a,b=>some (.r (.bool (decide (a>b))))
 | .geq,_,a,b=>some (.r (.bool (decide (a≥b))))
 | .and,k,a,b=>some (.r (.int k (ZV k a b)))
 | .or,k,a,b=>some (.r (.int k (bOr k a b)))
 | .xor,k,a,b=>some (.r (.int k (ZU k a b)))
 |_,_,_,_=>none
def shA:BinOp->IntKind->Int->Int->Option AV
 | .shl,k,a,b=>if b<0 then none else some (.r (.int k (A0X k a b)))
 | .shr,k,a,b=>if b<0 then none else some (.r (.int k (Pe k a b)))
 |_,_,_,_=>none
def A0o:BinOp->Bool
 | .shl | .shr=>true
 |_=>false
def V4:BinOp->ByteArray->ByteArray->Option AV
 | .add,a,b=>if a.size+b.size≤9223372036854775807 then some (.r (.string (a++b))) else none
 | .eql,a,b=>some (.r (.bool (a.toList==b.toList)))
 | .neq,a,b=>some (.r (.bool (!(a.toList==b.toList))))
 | .lss,a,b=>some (.r (.bool (Op.bytesLess a.toList b.toList)))
 | .leq,a,b=>some (.r (.bool (Op.bytesLess a.toList b.toList||a.toList==b.toList)))
 | .gtr,a,b=>some (.r (.bool (!(Op.bytesLess a.toList b.toList||a.toList==b.toList))))
 | .geq,a,b=>some (.r (.bool (!Op.bytesLess a.toList b.toList)))
 |_,_,_=>none
def XA:AV->Option Bool
 | .r (.slice a _ _)=>some a.isNone
 | .ro _ _ (_::_)=>some false
 | .s _ _ len=>if 0<len then some false else none
 |_=>none
def Ui (op:BinOp)(y:TY):AV->AV->Option AV
 | .r (.int k a),.r (.int k' b)=>if A0o op=true then shA op k a b else if k=k' then XU op k a b else none
 | .r (.string a),.r (.string b)=>V4 op a b
 | .r (.bool a),.r (.bool b)=>match y.k,op with
   | .bool,.eql=>some (.r (.bool (a==b)))
   | .bool,.neq=>some (.r (.bool (!(a==b))))
   |_,_=>none
 |x,.r (.slice none 0 0)=>match y.k,op,XA x with
  | .slice _,.eql,some b=>some (.r (.bool b))
  | .slice _,.neq,some b=>some (.r (.bool (!b)))
  |_,_,_=>none
 |_,_=>none
def FN:Operand->Bool
 | .const .nilIface=>true
 |_=>false
def UJ (op:BinOp)(y:TY)(v:Value):Option AV:=
 match y.k,op,v with
 | .ifc,.eql,.nilIface=>some (.r (.bool true))
 | .ifc,.neq,.nilIface=>some (.r (.bool false))
 | .ifc,.eql,.iface _ _=>some (.r (.bool false))
 | .ifc,.neq,.iface _ _=>some (.r (.bool true))
 |_,_,_=>none
inductive ET where
 |prim (k:TK)
 |str (fs:List (Nat×Nat×ET))
mutual
def NJ (P:Program):Nat->TypeId->Option ET
 |0,_=>none
 |d+1,T=>match P.underlying T with
  |some (.int k)=>some (.prim (.int k))
  |some .string=>some (.prim .str)
  |some .bool=>some (.prim .bool)
  |some (.struct fs)=>if P.stoodInHeld T=true then none else (UT P d fs.toList).map .str
  |_=>none
def UT (P:Program):Nat->List Field->Option (List (Nat×Nat×ET))
 |_,[]=>some []
 |0,_::_=>none
 |d+1,f::fs=>if f.name= "_" then none else match NJ P d f.type,UT P d fs,P.info? f.type with
  |some t,some l,some i=>some ((f.offset,i.size,t)::l)
  |_,_,_=>none
end
def O3 (P:Program)(T:TypeId):Option ET:=if P.eqGuardType P.depth T=true then none else NJ P 200 T
def eqC:TK->AV->AV->Option Bool
 | .int _,.r (.int k a),.r (.int k' b)=>if k=k' then some (a==b) else none
 | .str,.r (.string a),.r (.string b)=>some (a.toList==b.toList)
 | .bool,.r (.bool a),.r (.bool b)=>some (a==b)
 |_,_,_=>none
mutual
def ZJ:ET->List AV->List AV->Option Bool
 | .prim k,[x],[y]=>eqC k x y
 | .prim _,_,_=>none
 | .str fs,a,b=>Om fs a b
def Om:List (Nat×Nat×ET)->List AV->List AV->Option Bool
 | [],_,_=>some true
 |(o,s,t)::r,a,b=>match ZJ t ((a.drop o).take s) ((b.drop o).take s),Om r a b with
  |some p,some q=>some (p&&q)
  |_,_=>none
end
def eqA (P:Program)(op:BinOp)(T:TypeId)(a b:List AV):Option AV:=
 match op,O3 P T with
 | .eql,some (.str fs)=>(Om fs a b).map fun r=> .r (.bool r)
 | .neq,some (.str fs)=>(Om fs a b).map fun r=> .r (.bool (!r))
 |_,_=>none
def unA:UnOp->AV->Option AV
 | .not,.r (.bool b)=>some (.r (.bool (!b)))
 | .neg,.r (.int k n)=>some (.r (.int k (k.wrap (0 - n))))
 |_,_=>none
def cvA (P:Program)(st:AS)(s d:TY):AV->Option AV
 | .r (.int _ n)=>match d.k with
   | .int k=>some (.r (.int k (k.wrap n)))
   |_=>none
 | .r (.string b)=>match s.k,d.k with
   | .str,.str=>some (.r (.string b))
   |_,_=>none
 |x=>match s.k,d.k with
  | .slice e,.str=>match AK P e,D1 st 1 x with
    |some ⟨.int .u8,_,_,_⟩,some els=>match Xz els with
     |some bs=>some (.r (.string ⟨bs.toArray⟩))
     |none=>none
    |_,_=>none
  |_,_=>none
def YJ (len:Nat):Option AV->Option Nat
 |none=>some len
 |some (.r (.int _ h))=>if 0≤h/\h≤len then some h.toNat else none
 |_=>none
def YE (h:Nat):Option AV->Option Nat
 |none=>some 0
 |some (.r (.int _ l))=>if 0≤l/\l≤h then some l.toNat else none
 |_=>none
def Xr (len:Nat)(lo hi:Option AV):Option (Nat×Nat):=
 match YJ len hi with
 |none=>none
 |some h=>(YE h lo).map fun l=>(l,h)
def lkk (st:AS)(n:Nat):Option Nat:=match lk st.o n with
 |some (.lst _ k _)=>some k
 |some (.ul _ k _ _)=>some k
 |_=>none
def Yf (P:Program)(st:AS)(y:TY)(lo hi:Option AV):AV->Option AV
 | .r (.string s)=>match y.k with
   | .str=>(Xr s.size lo hi).map fun(l,h)=> .r (.string (s.extract l h))
   |_=>none
 | .ro t k els=>match y.k with
   | .slice e=>match AK P e with
     |some ye=>if k=ye.size then (Xr els.length lo hi).map fun(l,h)=> .ro t k ((els.take h).drop l) else none
     |none=>none
   |_=>none
 | .s n o len=>match y.k with
   | .slice e=>match AK P e,lkk st n with
     |some ye,some k=>if k=ye.size then (Xr len lo hi).map fun(l,h)=> .s n (o+l) (h - l) else none
     |_,_=>none
   |_=>none
 | .r (.slice none 0 0)=>match y.k with
   | .slice e=>match AK P e with
     |some _=>(Xr 0 lo hi).map fun _=> .r (.slice none 0 0)
     |none=>none
   |_=>none
 |_=>none
def VB (P:Program)(st:AS)(y:TY)(lo:Option AV)(hi m:AV)(x:AV):Option AV:=
 match Hn x,m,hi with
 |some (.r (.int _ n)),.r (.int _ mv),.r (.int _ hv)=>if 0≤mv/\mv≤n/\hv≤mv then Yf P st y lo (some hi) x else none
 |_,_,_=>none
def WE (x:AV):TK->Option AV
 | .slice _=>match x with
   | .r (.slice none 0 0)=>some (.r (.int .i64 0))
   |_=>none
 |_=>none
def ixA (st:AS)(P:Program)(y:TY)(i:Int)(x:AV):Option AV:=
 match y.k with
 | .slice e=>match AK P e,x with
   |some ye,.ro t k els=>if k=ye.size/\0≤i then (els[i.toNat]?).map fun c=> .re t c 0 else none
   |some ye,.s n lo len=>match lkk st n with
    |some k=>if k=ye.size/\0≤i/\i<len then some (.p n (lo+i.toNat) 0) else none
    |none=>none
   |_,_=>none
 | .arr m e=>match AK P e with
   |some ye=>if 0≤i/\i<m then Jh (i.toNat * ye.size) x else none
   |none=>none
 |_=>none
def ixV (P:Program)(y:TY)(i:Int)(x:AV):Option AV:=
 match y.k,x with
 | .str,.r (.string s)=>if 0≤i then (s[i.toNat]?).map fun b=> .r (.int .u8 b.toNat) else none
 | .arr m e,.agg c=>match AK P e with
   |some ye=>if 0≤i/\i<m then KI ye c (i.toNat * ye.size) else none
   |none=>none
 |_,_=>none
def AV.cells:AV->List AV
 | .agg c=>c
 |x=>[x]
def splice (cs:List AV)(off:Nat)(new:List AV):List AV:=cs.take off++new++cs.drop (off+new.length)
def AV.okPart:AV->Bool
 | .r (.agg _) | .any=>false
 |_=>true
def JA (place:Nat->Option (Nat×Nat))(cs:List AV):List (Nat×AV)->Option (List AV)
 | []=>some cs
 |(i,v)::r=>match place i with
  |none=>none
  |some (off,sz)=>if v.cells.length=sz/\off+sz≤cs.length/\v.okPart=true then JA place (splice cs off v.cells) r else none
def GI (st:AS)(G:List (Nat×List Value)):List (Nat×Operand)->Option (List (Nat×AV))
 | []=>some []
 |(i,x)::r=>match ev st G x,GI st G r with
  |some a,some l=>some ((i,a)::l)
  |_,_=>none
def DQ (st:AS)(G:List (Nat×List Value)):Option Operand->Option (Option AV)
 |none=>some none
 |some x=>(ev st G x).map some
def Vd (P:Program)(st:AS)(n:Nat)(k e:TypeId)(kk:IntKind)(v:Int):Option AV:=match AK P k,AK P e,lk st.o n with
 |some ⟨.int .i64,_,_,_⟩,some ⟨_,_,_,some []⟩,some (.mp l)=>match kk with
  | .i64=>some (.tup [.agg [],.r (.bool (l.contains v))])
  |_=>none
 |_,_,_=>none
def Q3 (P:Program)(st:AS):Option TY->Option AV->Option AV->Option AV
 |some ⟨.map k e,_,_,_⟩,some (.q n),some (.r (.int kk v))=>Vd P st n k e kk v
 |_,_,_=>none
def Z2:List AV->Option AV
 | [.r (.int k a),.r (.int _ b)]=>some (.r (.int k (if b>a then b else a)))
 |_=>none
def Vb:Option (List AV)->Option AV
 |some l=>Z2 l
 |none=>none
def qv (P:Program)(G:List (Nat×List Value))(st:AS):Op->Option AV
 | .move x=>ev st G x
 | .assign x=>ev st G x
 | .pick c a b=>match ev st G c,ev st G a,ev st G b with
   |some (.r (.bool c)),some a,some b=>some (OV c a b)
   |_,_,_=>none
 | .load T x=>match AK P T,ev st G x with
   |some y,some x=>match Hj st x with
    |some (c,off)=>KI y c off
    |none=>none
   |_,_=>none
 | .nilCheck x=>match ev st G x with
   |some (.re t c off)=>some (.re t c off)
   |some (.p n i off)=>some (.p n i off)
   |some (.fn f c)=>some (.fn f c)
   |_=>none
 | .binOp op T x y _=>match FN y with
   |true=>(match AK P T,ev st G x with
    |some ty,some (.r v)=>UJ op ty v
    |_,_=>none)
   |false=>(match AK P T,ev st G x,ev st G y with
    |some _,some (.agg a),some (.agg b)=>eqA P op T a b
    |some ty,some a,some b=>Ui op ty a b
    |_,_,_=>none)
 | .unOp op _ x=>match ev st G x with
   |some a=>unA op a
   |none=>none
 | .convert s d x=>match AK P s,AK P d,ev st G x with
   |some s,some d,some x=>cvA P st s d x
   |_,_,_=>none
 | .makeInterface T x=>match AK P T,ev st G x with
   |some ⟨.ifc,_,_,_⟩,_=>none
   |some _,some x=>some (.ifc T x)
   |_,_=>none
 | .makeFunc (.func f) first caps=>match first.toList,FV st G caps.toList with
   | [],some c=>some (.fn f c)
   |_,_=>none
 | .slice T x lo hi none=>match AK P T,ev st G x,DQ st G lo,DQ st G hi with
   |some y,some x,some lo,some hi=>Yf P st y lo hi x
   |_,_,_,_=>none
 | .slice T x lo (some hi) (some m)=>match AK P T,ev st G x,DQ st G lo,ev st G hi,ev st G m with
   |some y,some x,some lo,some hi,some m=>VB P st y lo hi m x
   |_,_,_,_,_=>none
 | .fieldAddr T x f=>match AK P T,ev st G x with
   |some ⟨.struct fs,_,_,_⟩,some x=>match fs[f]? with
    |some (off,sz)=>if sz=0 then none else Jh off x
    |none=>none
   |_,_=>none
 | .indexAddr T x i=>match AK P T,ev st G x,ev st G i with
   |some y,some x,some (.r (.int _ i))=>ixA st P y i x
   |_,_,_=>none
 | .index T x i=>match AK P T,ev st G x,ev st G i with
   |some y,some x,some (.r (.int _ i))=>ixV P y i x
   |_,_,_=>none
 | .lookup T x i true=>Q3 P st (AK P T) (ev st G x) (ev st G i)
 | .extract t i=>match ev st G t with
   |some (.tup c)=>c[i]?
   |_=>none
 | .build T parts=>match AK P T,GI st G parts.toList with
   |some ⟨.struct fs,_,_,some z⟩,some l=>(JA (fs[·]?) (z.map .r) l).map .agg
   |some ⟨.arr _ e,_,_,some z⟩,some l=>match AK P e with
    |some ye=>(JA (fun i=>some (i * ye.size,ye.size)) (z.map .r) l).map .agg
    |none=>none
   |_,_=>none
 | .call {callee:= .builtin .len,args,argTypes}=>match FV st G args.toList,argTypes[0]? with
   |some [x],some T=>match AK P T with
    |some y=>Vg st x y.k
    |none=>none
   |_,_=>none
 | .call {callee:= .builtin .max,args,..}=>Vb (FV st G args.toList)
 | .call {callee:= .builtin .cap,args,argTypes}=>match FV st G args.toList,argTypes[0]? with
   |some [x],some T=>match AK P T with
    |some y=>WE x y.k
    |none=>none
   |_,_=>none
 |_=>none
section
variable {P:Program} {E:Env} {N:Nat} {st:AS} {th:List NLoc} {z:AO} {a:Act} {w:World}
theorem AL (h:Sim E N st th z a w){x:Operand}{av:AV}(he:ev st E.G x=some av):Rep w z th av (a.eval x):=by
 cases x with
 |tmp t=>
  obtain⟨y,hy,hr⟩:=h.slots t av he;simp only[Act.eval];rw[dE,hy];exact hr
 |const v=>simp only[ev,aM] at he;subst he;exact .r _ v
 |global g=>
  simp only[ev,aF] at he;obtain⟨cs,hc,rfl⟩:=he
  have hm:(g,cs) ∈ E.G:=by
   generalize E.G=G at hc
   induction G with
   |nil=>simp[lk] at hc
   |cons p r ih=>
    obtain⟨i,c⟩:=p;simp only[lk] at hc;split at hc
    ·rename_i e;subst e;cases hc;simp
    ·exact gM _ (ih hc)
  obtain⟨h1,h2⟩:=h.mem.globs g cs hm
  have:=Rep.re (w:=w) (z:=z) th true (cs.map .r) g 0 0 (fun j=>cs.getD j undef) h1 (fun j x hx=>by
   simp only[List.getElem?_map,aF] at hx;obtain⟨v,hv,rfl⟩:=hx
   simpa[List.getD,hv] using h2 j v hv) (fun j x hx=>by
   simp only[List.getElem?_map,aF] at hx;obtain⟨v,hv,rfl⟩:=hx
   simp only[List.getD,hv,dH];exact .r _ v)
  simpa[Act.eval] using this
 |func f=>simp only[ev,aM] at he;subst he;exact .fn th f [] [] rfl (fun i x y h=>by simp at h)
theorem Bo (h:Sim E N st th z a w): ∀ {l:List Operand}{c:List AV},FV st E.G l=some c->Reps w z th c (l.map a.eval)
 | [],c,he=>by simp only[FV,aM] at he;subst he;exact .nil
 |x::r,c,he=>by
  simp only[FV] at he;split at he
  ·rename_i x1 c1 h1 h2;cases he;exact .cons (AL h h1) (Bo h h2)
  ·cases he
theorem Rep.agg_inv {x:Value}{c:List AV}(h:Rep w z th (.agg c) x): ∃ys:List Value,x= .agg ys.toArray/\Reps w z th c ys:=by
 cases h with |agg _ _ ys hl hx=>exact⟨ys,rfl,hl,hx⟩
theorem Rep.tup_inv {x:Value}{c:List AV}(h:Rep w z th (.tup c) x): ∃ys:List Value,x= .tuple ys.toArray/\Reps w z th c ys:=by
 cases h with |tup _ _ ys hl hx=>exact⟨ys,rfl,hl,hx⟩
theorem Rep.r_inv {x v:Value}(h:Rep w z th (.r v) x):x=v:=by cases h;rfl
theorem Rep.s_inv {x:Value}{n lo len:Nat}(h:Rep w z th (.s n lo len) x): ∃L,th[n]?=some L/\((L.ph=true/\len=0/\x= .slice none 0 0)\/(L.ph=false/\ ∃c o,x= .slice (some ⟨L.b,o,none⟩) len c/\len≤c/\lo+c≤L.cap/\(0<c->o=L.o+lo * L.k))):=by
 cases h with
 |s _ _ _ _ c o L hL hp hl hc hx=>exact⟨L,hL,.inr ⟨hp,c,o,rfl,hl,hc,hx⟩⟩
 |sn _ _ _ L hL hp=>exact⟨L,hL,.inl ⟨hp,rfl,rfl⟩⟩
theorem Rep.q_inv {x:Value}{n:Nat}(h:Rep w z th (.q n) x): ∃L,th[n]?=some L/\x= .map (some L.b):=by
 cases h with |q _ _ L hL=>exact⟨L,hL,rfl⟩
theorem Sj (op:List (Nat×Nat×AV))(i:Nat): ∀(c:List AV)(j k:Nat)(x:AV),(Yu op i j c)[k]?=some x-> ∃y,c[k]?=some y/\((F0 op i (j+k)=some x)\/(F0 op i (j+k)=none/\x=unU y))
 | [],j,k,x,h=>by simp[Yu] at h
 |y::r,j,0,x,h=>by
  simp only[Yu,List.getElem?_cons_zero,aM] at h;refine⟨y,rfl,?_⟩;split at h
  ·rename_i h1;subst h;exact .inl h1
  ·rename_i h1;exact .inr ⟨h1,h.symm⟩
 |y::r,j,k+1,x,h=>by
  simp only[Yu,List.getElem?_cons_succ] at h;obtain⟨y',h1,h2⟩:=Sj op i r (j+1) k x h;exact⟨y',by simpa using h1,by rw[show j+(k+1)=j+1+k by omega];exact h2⟩
theorem UC.unU {f:Nat->Prop}{x:AV}{v:Value}(h:UC w z f x v)(th:List NLoc):Rep w z th (unU x) v:=by
 cases h with
 |r _ _ _ h=>cases x<;>first |exact h.pure th |exact .any _ _
 |n _ T k=>exact .any _ _
 |u _ T k els b o c cells fr F ys hb hf hl hs hfb hF hd hk hy h1 hx=>exact .any _ _
theorem Rep.p_inv {x:Value}{n i off:Nat}(h:Rep w z th (.p n i off) x): ∃L,th[n]?=some L/\x= .pointer (some ⟨L.b,L.o+i * L.k+off,none⟩):=by
 cases h with |p _ _ _ _ L hL=>exact⟨L,hL,rfl⟩
theorem Rep.ro_inv {x:Value}{t:Bool}{k:Nat}{els:List (List AV)}(h:Rep w z th (.ro t k els) x): ∃ad c,x= .slice ad els.length c/\els.length≤c/\(els=[]\/ ∃b o,ad=some ⟨b,o,none⟩/\z t b/\
  ∀(i:Nat)(e:List AV),els[i]?=some e->e.length=k/\ ∀(j:Nat)(x:AV),e[j]?=some x-> ∃y,w.cell? ⟨b,o+i * k+j,none⟩=some y/\Rep w z [] x y/\y.oneCell'=true):=by
 cases h with
 |nil _ _ _ ad c=>exact⟨ad,c,rfl,aU _,.inl rfl⟩
 |ro _ _ _ _ b o c ys hz hc hk hy h1 hx=>exact⟨_,c,rfl,hc,.inr ⟨b,o,rfl,hz,fun i e he=>⟨hk i e he,fun j x hj=>⟨_,hy i e j x he hj,hx i e j x he hj,h1 i e j x he hj⟩⟩⟩⟩
theorem Rep.ro_mk {t:Bool}{els:List (List AV)}{b o k c:Nat}(hz:z t b)(hc:els.length≤c)
  (h: ∀(i:Nat)(e:List AV),els[i]?=some e->e.length=k/\ ∀(j:Nat)(x:AV),e[j]?=some x-> ∃y,w.cell? ⟨b,o+i * k+j,none⟩=some y/\Rep w z [] x y/\y.oneCell'=true):Rep w z th (.ro t k els) (.slice (some ⟨b,o,none⟩) els.length c):=by
 refine .ro th t k els b o c (fun i j=>(w.cell? ⟨b,o+i * k+j,none⟩).getD undef) hz hc (fun i e he=>(h i e he).1) (fun i e j x he hj=>?_) (fun i e j x he hj=>?_) (fun i e j x he hj=>?_)
 ·obtain⟨y,hy,_⟩:=(h i e he).2 j x hj;simp[hy]
 ·obtain⟨y,hy,_,h1⟩:=(h i e he).2 j x hj;simpa[hy] using h1
 ·obtain⟨y,hy,hr,_⟩:=(h i e he).2 j x hj;simpa[hy] using hr
theorem Rep.re_mk {t:Bool}{c:List AV}{b o off:Nat}(hz:z t b)(h: ∀(j:Nat)(x:AV),c[j]?=some x-> ∃y,w.cell? ⟨b,o+j,none⟩=some y/\Rep w z [] x y):Rep w z th (.re t c off) (.pointer (some ⟨b,o+off,none⟩)):=by
 refine .re th t c b o off (fun j=>(w.cell? ⟨b,o+j,none⟩).getD undef) hz (fun j x hj=>?_) (fun j x hj=>?_)
 ·obtain⟨y,hy,_⟩:=h j x hj;simp[hy]
 ·obtain⟨y,hy,hr⟩:=h j x hj;simpa[hy] using hr
theorem Rep.re_inv {x:Value}{t:Bool}{c:List AV}{off:Nat}(h:Rep w z th (.re t c off) x): ∃b o,x= .pointer (some ⟨b,o+off,none⟩)/\z t b/\ ∀(j:Nat)(x:AV),c[j]?=some x-> ∃y,w.cell? ⟨b,o+j,none⟩=some y/\Rep w z [] x y:=by
 cases h with
 |re _ _ _ b o _ ys hz hy hx=>exact⟨b,o,rfl,hz,fun j x hj=>⟨_,hy j x hj,hx j x hj⟩⟩
theorem Bj {b o:Nat}{cells:Array Value}{T:TypeId}{fr:Nat×Nat}(h:w.heap[b]?=some (.cells cells T fr)):w.cell? ⟨b,o,none⟩=cells[o]?:=by
 simp[World.cell?,h]
theorem Rm {b:Nat}{cells:Array Value}{T:TypeId}{fr:Nat×Nat}(h:w.heap[b]?=some (.cells cells T fr))(hf:RN cells fr){o:Nat}(ho:o<cells.size+1):w.frozen? ⟨b,o,none⟩=false:=by
 obtain⟨lo,hi⟩:=fr;simp only[World.frozen?,h];have:=hf o ho;simp only[eG,decide_eq_false_iff_not];simp only at this;omega
theorem Ny {b o:Nat}{cells:Array Value}{T:TypeId}{fr:Nat×Nat}(h:w.heap[b]?=some (.cells cells T fr))(hf:RN cells fr)(ho:o<cells.size):w.frozen? ⟨b,o,none⟩=false:=Rm h hf (Nat.lt_succ_of_lt ho)
theorem M8 {n k:Nat}(h:lkk st n=some k): ∃nd,lk st.o n=some nd/\ ∀(w:World)(z:AO)(th:List NLoc)(L:NLoc),NdAt w z th L nd->L.ph=true\/L.k=k:=by
 unfold lkk at h;split at h
 ·rename_i T k els hl
  cases h;refine⟨_,hl,fun w z th L hn=>?_⟩
  rcases hn with ⟨hp,_⟩ |⟨_,cells,fr,_,_,hk,_⟩
  ·exact .inl hp
  ·exact .inr hk
 ·rename_i T k els op hl
  cases h;refine⟨_,hl,fun w z th L hn=>?_⟩
  rcases hn with ⟨hp,_⟩ |⟨_,cells,fr,_,_,hk,_⟩
  ·exact .inl hp
  ·exact .inr hk
 ·cases h
def Kn (st:AS)(th:List NLoc)(z:AO)(b:Nat):Prop:=(∃t,z t b)\/ ∃n nd L,lk st.o n=some nd/\th[n]?=some L/\L.ph=false/\L.b=b
theorem Kn.lt (h:Sim E N st th z a w){b:Nat}(hb:Kn st th z b):b<w.heap.size:=by
 rcases hb with ⟨t,hz⟩ |⟨n,nd,L,h1,h2,h3,rfl⟩
 ·exact h.mem.zlt _ _ hz
 ·obtain⟨L',k1,_,k3⟩:=h.mem.nds n nd h1
  rw[h2] at k1;cases k1;exact(k3 h3).1
def SameK (st:AS)(th:List NLoc)(z:AO)(w w':World):Prop:= ∀b,Kn st th z b->w'.heap[b]?=w.heap[b]?
theorem Ext.sameK (h:Sim E N st th z a w){w':World}(e:Ext w w'):SameK st th z w w':=fun b hb=>e.same b (hb.lt h)
theorem SameK.refl:SameK st th z w w:=fun _ _=>rfl
theorem I7 (h:Sim E N st th z a w){x:AV}{v:Value}(hr:Rep w z th x v){c:List AV}{off:Nat}(hc:Hj st x=some (c,off)):
  ∃b o,v= .pointer (some ⟨b,o+off,none⟩)/\Kn st th z b/\ ∀(j:Nat)(x:AV),c[j]?=some x-> ∃y,w.cell? ⟨b,o+j,none⟩=some y/\Rep w z th x y:=by
 unfold Hj at hc;split at hc
 ·cases hc
  obtain⟨b,o,rfl,hz,hy⟩:=hr.re_inv;exact⟨b,o,rfl,.inl ⟨_,hz⟩,fun j x hj=>let ⟨y,h1,h2⟩:=hy j x hj;⟨y,h1,h2.pure th⟩⟩
 ·rename_i n i off
  obtain⟨L,hL,rfl⟩:=hr.p_inv;split at hc
  ·rename_i T c1 ho
   split at hc
   ·rename_i hi;cases hc;subst hi
    obtain⟨L',h1,⟨hp,cells,fr,h2,h3,h4,h5⟩,h6⟩:=h.mem.nds _ _ ho;rw[hL] at h1;cases h1;refine⟨L.b,0,by simp[h4],.inr ⟨_,_,L,ho,hL,hp,rfl⟩,fun j x hj=>?_⟩;obtain⟨y,hy,hr⟩:=h5.get hj;exact⟨y,by rw[Bj h2];simpa using hy,hr⟩
   ·cases hc
  ·rename_i T k els ho
   simp only[aF] at hc;obtain⟨e,he,hh⟩:=hc;cases hh;obtain⟨L',h1,hnd,h8⟩:=h.mem.nds _ _ ho;rw[hL] at h1;cases h1
   rcases hnd with ⟨_,hn⟩ |⟨hp,cells,fr,h2,h3,h4,h5,h6,h7⟩
   ·subst hn;simp at he
   refine⟨L.b,L.o+i * L.k,rfl,.inr ⟨_,_,L,ho,hL,hp,rfl⟩,fun j x hj=>?_⟩;obtain⟨y,hy,hr,_⟩:=(h7 i _ he).2 j x hj;exact⟨y,by rw[Bj h2];exact hy,hr.pure th⟩
  ·rename_i T k els op ho
   simp only[aF] at hc;obtain⟨e,he,hh⟩:=hc;cases hh;obtain⟨L',h1,hnd,h8⟩:=h.mem.nds _ _ ho;rw[hL] at h1;cases h1
   rcases hnd with ⟨_,hn⟩ |⟨hp,_⟩
   ·subst hn;simp at he
   obtain⟨U,hU⟩:=h.mem.uls;obtain⟨F,_,_,h9⟩:=hU.at_ _ _ _ _ _ _ ho hL;refine⟨L.b,L.o+i * L.k,rfl,.inr ⟨_,_,L,ho,hL,hp,rfl⟩,fun j x hj=>?_⟩;obtain⟨x0,hx0,hcase⟩:=Sj op i e 0 j x hj;rw[Nat.zero_add] at hcase;obtain⟨y,hy,_,hcu⟩:=h9 i e he j x0 hx0;refine⟨y,hy,?_⟩;unfold CellU at hcu
   rcases hcase with hcase |⟨hcase,rfl⟩
   ·rw[hcase] at hcu;exact hcu
   ·rw[hcase] at hcu;exact hcu.unU th
  ·cases hc
  ·cases hc
 ·cases hc
theorem Cc (b o d:Nat):(⟨b,o,none⟩:Addr).add d=⟨b,o+d,none⟩:=by unfold Addr.add;split<;>simp_all
theorem KH {T:TypeId}{y:TY}(hT:AK P T=some y){b o off:Nat}{c:List AV}{x:AV}(hp:KI y c off=some x)(hs:y.k.agg=false->y.size=1\/True)
  (hc: ∀(j:Nat)(x:AV),c[j]?=some x-> ∃u,w.cell? ⟨b,o+j,none⟩=some u/\Rep w z th x u):
  ∃v,Rep w z th x v/\ ∀w',(∀o,w'.cell? ⟨b,o,none⟩=w.cell? ⟨b,o,none⟩)->(loadVar T ⟨b,o+off,none⟩).run P w'= .ok v w':=by
 unfold KI at hp;split at hp
 ·rename_i hk
  split at hp
  ·rename_i hle;cases hp
   have hall: ∀j,j<y.size-> ∃u x,((c.drop off).take y.size)[j]?=some x/\w.cell? ⟨b,o+off+j,none⟩=some u/\Rep w z th x u:=by
    intro j hj
    have hl:off+j<c.length:=by omega
    obtain⟨u,hu,hr⟩:=hc (off+j) c[off+j] (by simp[hl]);exact⟨u,c[off+j],by rw[bM hj,bI];simp[hl],by rw[dO];exact hu,hr⟩
   refine⟨.agg ((List.range y.size).map fun j=>(w.cell? ⟨b,o+off+j,none⟩).getD undef).toArray,.agg th _ _ (by simp;omega) (fun i x u hx hu=>?_),fun w' hw'=>?_⟩
   ·have hi:i<y.size:=by
     have:=(aA.1 hx).1;simp at this;omega
    obtain⟨u',x',h1,h2,h3⟩:=hall i hi;rw[hx] at h1;cases h1;simp only[List.getElem?_map,dS hi,Option.map_some,h2,dH,aM] at hu;subst hu;exact h3
   ·simp only[loadVar,aQ,HQ hT,hk,aL,if_true,As hT]
    rw[run_loadCells w' _ _ (fun j=>(w.cell? ⟨b,o+off+j,none⟩).getD undef) (fun j hj=>by
     obtain⟨u,x,_,h2,_⟩:=hall j hj
     rw[Cc,hw',h2];rfl)]
    rfl
  ·cases hp
 ·rename_i hk
  obtain⟨u,hu,hr⟩:=hc off x hp;refine⟨u,hr,fun w' hw'=>?_⟩
  have hk':y.k.agg=false:=by simpa using hk
  simp only[loadVar,aQ,HQ hT,hk',aL,run_load];simp[hw',hu]
theorem QN {w':World}(e:SameK st th z w w'){b:Nat}(hb:Kn st th z b)(o:Nat):w'.cell? ⟨b,o,none⟩=w.cell? ⟨b,o,none⟩:=BO (e b hb) o
end
section
variable {P:Program} {E:Env} {N:Nat} {st:AS} {th:List NLoc} {z:AO} {a:Act} {w:World}
theorem KZ (op:BinOp)(T:TypeId)(X Y:Operand)(k k':IntKind)(x y:Int)(w:World):(eqGuard op T X Y (.int k x) (.int k' y)).run P w= .ok () w:=by
 cases op<;>simp[eqGuard]
theorem QO (op:BinOp)(T:TypeId)(X Y:Operand)(x y:ByteArray)(w:World):(eqGuard op T X Y (.string x) (.string y)).run P w= .ok () w:=by
 cases op<;>simp[eqGuard]
theorem JD (op:BinOp)(T:TypeId)(X Y:Operand)(x y:Bool)(w:World):(eqGuard op T X Y (.bool x) (.bool y)).run P w= .ok () w:=by
 cases op<;>simp[eqGuard]
theorem I3 (op:BinOp)(T:TypeId)(X Y:Operand)(a b:Option Addr)(l m c d:Nat)(w:World):(eqGuard op T X Y (.slice a l c) (.slice b m d)).run P w= .ok () w:=by
 cases op<;>simp[eqGuard]
theorem Rj {op:BinOp}{k:IntKind}{x y:Int}{r:AV}(hq:XU op k x y=some r)(T:TypeId)(w:World): ∃v,r= .r v/\ ∀w,(binOp op T (.int k x) (.int k y)).run P w= .ok v w:=by
 cases op<;>simp only[XU] at hq<;>first
  |(cases hq;done)
  |(split at hq<;>cases hq;rename_i hb;exact⟨_,rfl,fun w=>by simp[binOp,Op.intDiv,hb]⟩)
  |(cases hq;refine⟨_,rfl,fun w=>?_⟩;simp only[binOp,ne_eq,not_true_eq_false,if_false];rfl)
  |(cases hq;refine⟨_,rfl,fun w=>?_⟩;simp[binOp,Op.intArith,Op.intCmp,ZV,bOr,ZU];done)
theorem TZ {op:BinOp}{k k':IntKind}{x y:Int}{r:AV}(hq:shA op k x y=some r)(T:TypeId)(w:World): ∃v,r= .r v/\ ∀w,(binOp op T (.int k x) (.int k' y)).run P w= .ok v w:=by
 cases op<;>simp only[shA] at hq<;>first
  |(cases hq;done)
  |(split at hq<;>cases hq;rename_i hb;exact⟨_,rfl,fun w=>by simp[binOp,Op.shift,hb,A0X,Pe]⟩)
theorem R5 {op:BinOp}{x y:ByteArray}{r:AV}(hq:V4 op x y=some r)(T:TypeId): ∃v,r= .r v/\ ∀w,(binOp op T (.string x) (.string y)).run P w= .ok v w:=by
 cases op
 case add=>
  simp only[V4] at hq;split at hq
  ·rename_i hb
   simp only[aM] at hq;subst hq;refine⟨_,rfl,fun w=>?_⟩
   have: ¬(((x.size+y.size:Nat):Int)>IntKind.i64.max):=by
    have:IntKind.i64.max=9223372036854775807:=by decide
    omega
   simp only[binOp,Op.stringOp,this,if_false,bT]
  ·cases hq
 all_goals
  simp only[V4] at hq
  first
   |(cases hq;done)
   |(cases hq;exact⟨_,rfl,fun w=>by simp[binOp,Op.stringOp]⟩)
theorem M0 {x:AV}{v:Value}{b:Bool}(h:Rep w z th x v)(hn:XA x=some b): ∃ad l c,v= .slice ad l c/\ad.isNone=b:=by
 unfold XA at hn;split at hn
 ·cases hn;have:=h.r_inv;subst this;exact⟨_,_,_,rfl,rfl⟩
 ·cases hn
  obtain⟨ad,c,rfl,_,h1 |⟨b,o,rfl,_⟩⟩:=h.ro_inv
  ·cases h1
  ·exact⟨_,_,_,rfl,rfl⟩
 ·split at hn
  ·rename_i hpos;cases hn
   obtain⟨L,_,⟨_,h0,_⟩ |⟨_,c,o,rfl,_⟩⟩:=h.s_inv
   ·omega
   ·exact⟨_,_,_,rfl,rfl⟩
  ·cases hn
 ·cases hn
theorem O4 {T e:TypeId}(hu:P.underlying T=some (.slice e))(ad:Option Addr)(l c:Nat)(w:World):(Op.equal T (.slice ad l c) (.slice none 0 0)).run P w= .ok ad.isNone w:=by
 have e:Op.equal T (.slice ad l c) (.slice none 0 0)=Op.equalIn (9999+1) T (.slice ad l c) (.slice none 0 0):=rfl;rw[e,Op.equalIn]
 cases ad<;>simp[AD hu]
theorem MX {T:TypeId}(hu:P.underlying T=some .bool)(x y:Bool)(w:World):(Op.equal T (.bool x) (.bool y)).run P w= .ok (x==y) w:=by
 have e:Op.equal T (.bool x) (.bool y)=Op.equalIn (9999+1) T (.bool x) (.bool y):=rfl;rw[e,Op.equalIn];simp[AD hu]
theorem UU {k:TK}{x y:AV}{u v:Value}{r:Bool}(hx:Rep w z th x u)(hy:Rep w z th y v)(h:eqC k x y=some r){T:TypeId}{d:TypeDesc}(hu:P.underlying T=some d)(hk:(∃k',k= .int k'/\d= .int k')\/(k= .str/\d= .string)\/(k= .bool/\d= .bool))(D:Nat)(w':World):(Op.equalIn (D+1) T u v).run P w'= .ok r w':=by
 unfold eqC at h;split at h
 ·obtain rfl:=hx.r_inv;obtain rfl:=hy.r_inv
  split at h
  ·rename_i hkk;subst hkk;cases h
   rcases hk with ⟨k',_,rfl⟩ |⟨h1,_⟩ |⟨h1,_⟩
   ·exact run_equalIn_int w' D T _ k' _ _ hu
   ·cases h1
   ·cases h1
  ·cases h
 ·obtain rfl:=hx.r_inv;obtain rfl:=hy.r_inv;cases h
  rcases hk with ⟨k',h1,_⟩ |⟨_,rfl⟩ |⟨h1,_⟩
  ·cases h1
  ·exact run_equalIn_string w' D T _ _ hu
  ·cases h1
 ·obtain rfl:=hx.r_inv;obtain rfl:=hy.r_inv;cases h
  rcases hk with ⟨k',h1,_⟩ |⟨h1,_⟩ |⟨_,rfl⟩
  ·cases h1
  ·cases h1
  ·exact run_equalIn_bool' w' D T _ _ hu
 ·cases h
def N3 (P:Program)(T:TypeId)(xs:Array Value)(v:Value):Prop:=(∃fs,P.underlying T=some (.struct fs)/\v= .agg xs)\/((∃d,P.underlying T=some d/\((∃k,d= .int k)\/d= .string\/d= .bool))/\xs= #[v])
def Ri:TypeDesc->Bool
 | .struct _ | .array _ _=>true
 |_=>false
theorem Lv {T:TypeId}{i:TypeInfo}{d:TypeDesc}(hi:P.info? T=some i)(hu:P.underlying T=some d)(hd:(∃fs,d= .struct fs)\/(∃k,d= .int k)\/d= .string\/d= .bool)(xs:Array Value)(o:Nat)(hl:(¬ ∃fs,d= .struct fs)->(xs.extract o (o+i.size)).size=1)(w':World):
  ∃v,(part T xs o).run P w'= .ok v w'/\N3 P T (xs.extract o (o+i.size)) v:=by
 have ha:(isAgg T).run P w'= .ok (Ri d) w':=by
  simp only[isAgg,aQ,Go.AM.AD hu,aL];cases d<;>rfl
 have hsz:(sizeOf T).run P w'= .ok i.size w':=by simp[sizeOf,Cw hi]
 by_cases hs: ∃fs,d= .struct fs
 ·obtain⟨fs,rfl⟩:=hs
  refine⟨.agg (xs.extract o (o+i.size)),?_,.inl ⟨fs,hu,rfl⟩⟩;simp only[part,aQ,ha,aL,Ri,if_true,hsz,bT]
 ·have h1:=hl hs
  have hd':(∃k,d= .int k)\/d= .string\/d= .bool:=hd.resolve_left hs
  have hag:Ri d=false:=by rcases hd' with ⟨k,rfl⟩ |rfl |rfl<;>rfl
  simp only[Array.size_extract] at h1;obtain⟨v,hv⟩: ∃v,xs[o]?=some v:=⟨xs[o],by simp[show o<xs.size by omega]⟩;refine⟨v,?_,.inr ⟨⟨d,hu,hd'⟩,?_⟩⟩
  ·simp only[part,aQ,ha,aL,hag,bU,if_false,hv,bT]
  ·apply gN
   have:o<xs.size:=by omega
   have hlen:(xs.extract o (o+i.size)).toList.length=1:=by simp;omega
   obtain⟨u,hu'⟩:=dT.1 hlen
   have h0:(xs.extract o (o+i.size)).toList[0]?=some u:=by rw[hu'];rfl
   rw[hu'];rw[gO,fP,bM (by omega),bI] at h0;simp[hv] at h0;rw[h0]
mutual
theorem O5: ∀(d:Nat){T:TypeId}{t:ET},NJ P d T=some t-> ∀(a b:List AV)(xs ys:Array Value)(u v:Value)(r:Bool),Reps w z th a xs.toList->Reps w z th b ys.toList->N3 P T xs u->N3 P T ys v->ZJ t a b=some r-> ∀(D:Nat),d≤D-> ∀w',(Op.equalIn D T u v).run P w'= .ok r w'
 |0,T,t,h=>by simp[NJ] at h
 |d+1,T,t,h=>by
  intro a b xs ys u v r ha hb hu hv hq D hD w';obtain⟨D,rfl⟩: ∃D',D=D'+1:=⟨D - 1,by omega⟩
  have prim: ∀ {k:TK}{dd:TypeDesc},P.underlying T=some dd->(¬ ∃fs,dd= .struct fs)->t= .prim k->((∃k',k= .int k'/\dd= .int k')\/(k= .str/\dd= .string)\/(k= .bool/\dd= .bool))->(Op.equalIn (D+1) T u v).run P w'= .ok r w':=by
   intro k dd hud hns ht hk;subst ht
   have one: ∀ {xs:Array Value}{u:Value},N3 P T xs u->xs= #[u]:=by
    rintro xs u (⟨fs,h1,_⟩ |⟨_,h2⟩)
    ·rw[hud] at h1;cases h1;exact(hns ⟨_,rfl⟩).elim
    ·exact h2
   obtain rfl:=one hu;obtain rfl:=one hv;unfold ZJ at hq;split at hq
   ·rename_i k' x y he;cases he
    have hx:Rep w z th x u:=ha.2 0 x u rfl rfl;have hy:Rep w z th y v:=hb.2 0 y v rfl rfl;exact UU hx hy hq hud hk D w'
   ·cases hq
   ·rename_i he;cases he
  unfold NJ at h;split at h
  ·rename_i k hk;cases h;exact prim hk (by rintro⟨_,h⟩;cases h) rfl (.inl ⟨k,rfl,rfl⟩)
  ·rename_i hk;cases h;exact prim hk (by rintro⟨_,h⟩;cases h) rfl (.inr (.inl ⟨rfl,rfl⟩))
  ·rename_i hk;cases h;exact prim hk (by rintro⟨_,h⟩;cases h) rfl (.inr (.inr ⟨rfl,rfl⟩))
  ·rename_i fs hk
   split at h
   ·cases h
   ·rename_i hst
    simp only[aF] at h;obtain⟨l,hl,rfl⟩:=h;simp only[ZJ] at hq
    have whole: ∀ {xs:Array Value}{u:Value},N3 P T xs u->u= .agg xs:=by
     rintro xs u (⟨fs,h1,h2⟩ |⟨⟨dd,h1,h2⟩,_⟩)
     ·exact h2
     ·rw[hk] at h1;cases h1;rcases h2 with ⟨_,h⟩ |h |h<;>cases h
    obtain rfl:=whole hu;obtain rfl:=whole hv
    have hf:P.fieldsOf T=fs:=by simp[Program.fieldsOf,hk]
    rw[run_equalIn_struct w' D T xs ys (by rw[hf];exact hk) (by simpa using hst),hf];exact MY d hl _ _ _ _ _ ha hb hq D (by omega) w'
  ·cases h
theorem MY: ∀(d:Nat){fs:List Field}{l:List (Nat×Nat×ET)},UT P d fs=some l-> ∀(a b:List AV)(xs ys:Array Value)(r:Bool),Reps w z th a xs.toList->Reps w z th b ys.toList->Om l a b=some r-> ∀(D:Nat),d≤D-> ∀w',(Op.eqFields D xs ys fs).run P w'= .ok r w'
 |d,[],l,h=>by
  intro a b xs ys r ha hb hq D hD w'
  have:l=[]:=by cases d<;>(unfold UT at h;simpa using h.symm)
  subst this;simp only[Om] at hq;cases hq;simp[Op.eqFields]
 |0,f::fs,l,h=>by simp[UT] at h
 |d+1,f::fs,l,h=>by
  intro a b xs ys r ha hb hq D hD w';unfold UT at h;split at h
  ·cases h
  ·rename_i hname
   split at h
   ·rename_i t l' i h1 h2 h3
    cases h;simp only[Om] at hq;split at hq
    ·rename_i p q hp hq'
     cases hq
     have hda:Reps w z th ((a.drop f.offset).take i.size) (xs.extract f.offset (f.offset+i.size)).toList:=by
      have:=(ha.drop f.offset).take i.size;simpa[gO,fP] using this
     have hdb:Reps w z th ((b.drop f.offset).take i.size) (ys.extract f.offset (f.offset+i.size)).toList:=by
      have:=(hb.drop f.offset).take i.size;simpa[gO,fP] using this
     obtain⟨dd,hud,hdd⟩: ∃dd,P.underlying f.type=some dd/\((∃fs,dd= .struct fs)\/(∃k,dd= .int k)\/dd= .string\/dd= .bool):=by
      cases d with
      |zero=>simp[NJ] at h1
      |succ d=>
       unfold NJ at h1;split at h1
       ·rename_i k hk;exact⟨_,hk,.inr (.inl ⟨k,rfl⟩)⟩
       ·rename_i hk;exact⟨_,hk,.inr (.inr (.inl rfl))⟩
       ·rename_i hk;exact⟨_,hk,.inr (.inr (.inr rfl))⟩
       ·rename_i fs hk;exact⟨_,hk,.inl ⟨fs,rfl⟩⟩
       ·cases h1
     have hone:(¬ ∃fs,dd= .struct fs)->((a.drop f.offset).take i.size).length=1/\((b.drop f.offset).take i.size).length=1:=by
      intro hns
      have ht: ∃k,t= .prim k:=by
       cases d with
       |zero=>simp[NJ] at h1
       |succ d=>
        unfold NJ at h1;rw[hud] at h1
        rcases hdd with hh |⟨k,rfl⟩ |rfl |rfl
        ·exact(hns hh).elim
        ·exact⟨_,(bD h1).symm⟩
        ·exact⟨_,(bD h1).symm⟩
        ·exact⟨_,(bD h1).symm⟩
      obtain⟨k,rfl⟩:=ht;unfold ZJ at hp;split at hp
      ·rename_i x y he e1 e2;rw[e1,e2];exact⟨rfl,rfl⟩
      ·cases hp
      ·rename_i he;cases he
     obtain⟨u,hu1,hu2⟩:=Lv h3 hud hdd xs f.offset (fun hns=>by have:=hda.1;rw[(hone hns).1,cT] at this;exact this) w';obtain⟨v,hv1,hv2⟩:=Lv h3 hud hdd ys f.offset (fun hns=>by have:=hdb.1;rw[(hone hns).2,cT] at this;exact this) w';have he:=O5 d h1 _ _ _ _ _ _ _ hda hdb hu2 hv2 hp D (by omega) w';have hr:=MY d h2 _ _ _ _ _ ha hb hq' D (by omega) w';simp only[Op.eqFields,ne_eq,hname,not_false_eq_true,if_true,aQ,hu1,hv1,he,aL,Sem.run_ite]
     cases p<;>simp[hr]
    ·cases hq
   ·cases h
end
theorem UV {op:BinOp}{T:TypeId}{y:TY}(hT:AK P T=some y){a b:List AV}{r:AV}{v1 v2:Value}(h1:Rep w z th (.agg a) v1)(h2:Rep w z th (.agg b) v2)(hq:eqA P op T a b=some r)(X Y:Operand):
  ∃v,Rep w z th r v/\ ∀w',(do eqGuard op T X Y v1 v2;binOp op T v1 v2:Sem Value).run P w'= .ok v w':=by
 obtain⟨xs,rfl,hx⟩:=h1.agg_inv;obtain⟨ys,rfl,hy⟩:=h2.agg_inv
 have main: ∀ {fs:List (Nat×Nat×ET)}{q:Bool},O3 P T=some (.str fs)->Om fs a b=some q->(∀w',(eqGuard op T X Y (.agg xs.toArray) (.agg ys.toArray)).run P w'= .ok () w')/\ ∀w',(Op.equalIn 10000 T (.agg xs.toArray) (.agg ys.toArray)).run P w'= .ok q w':=by
  intro fs q ht hq;unfold O3 at ht;split at ht
  ·cases ht
  rename_i hg
  have hg':P.eqGuardType P.depth T=false:=by simpa using hg
  refine⟨fun w'=>?_,fun w'=>?_⟩
  ·cases op<;>simp[eqGuard,hg']
  ·have hu: ∃gs,P.underlying T=some (.struct gs):=by
    unfold NJ at ht;split at ht
    ·cases ht
    ·cases ht
    ·cases ht
    ·rename_i gs hk;exact⟨gs,hk⟩
    ·cases ht
   obtain⟨gs,hu⟩:=hu;exact O5 200 ht a b xs.toArray ys.toArray _ _ q hx hy (.inl ⟨gs,hu,rfl⟩) (.inl ⟨gs,hu,rfl⟩) (by simpa only[ZJ] using hq) 10000 (by omega) w'
 unfold eqA at hq;split at hq
 ·rename_i fs ht
  simp only[aF] at hq;obtain⟨q,hq,rfl⟩:=hq;obtain⟨m1,m2⟩:=main ht hq;exact⟨_,.r th _,fun w'=>by rw[aQ,m1,aL,run_eql_struct,m2];rfl⟩
 ·rename_i fs ht
  simp only[aF] at hq;obtain⟨q,hq,rfl⟩:=hq;obtain⟨m1,m2⟩:=main ht hq;exact⟨_,.r th _,fun w'=>by rw[aQ,m1,aL,run_neq_struct,m2];rfl⟩
 ·cases hq
theorem SI {op:BinOp}{T:TypeId}{y:TY}(hT:AK P T=some y){x1 x2 r:AV}{v1 v2:Value}(h1:Rep w z th x1 v1)(h2:Rep w z th x2 v2)(hq:Ui op y x1 x2=some r)(X Y:Operand):
  ∃v,Rep w z th r v/\ ∀w',(do eqGuard op T X Y v1 v2;binOp op T v1 v2:Sem Value).run P w'= .ok v w':=by
 unfold Ui at hq;split at hq
 ·rename_i k x k' y'
  obtain rfl:=h1.r_inv;obtain rfl:=h2.r_inv;split at hq
  ·obtain⟨v,rfl,hv⟩:=TZ (P:=P) (k':=k') hq T w
   exact⟨v,.r th v,fun w'=>by simp only[aQ,KZ,aL,hv]⟩
  split at hq
  ·rename_i hk;subst hk
   obtain⟨v,rfl,hv⟩:=Rj (P:=P) hq T w;exact⟨v,.r th v,fun w'=>by simp only[aQ,KZ,aL,hv]⟩
  ·cases hq
 ·rename_i x y'
  obtain rfl:=h1.r_inv;obtain rfl:=h2.r_inv;obtain⟨v,rfl,hv⟩:=R5 (P:=P) hq T;exact⟨v,.r th v,fun w'=>by simp only[aQ,QO,aL,hv]⟩
 ·rename_i x y'
  obtain rfl:=h1.r_inv;obtain rfl:=h2.r_inv;split at hq
  ·rename_i hk;cases hq
   exact⟨_,.r th _,fun w'=>by simp only[aQ,JD,aL,binOp,MX (PK hT hk),bT]⟩
  ·rename_i hk;cases hq
   exact⟨_,.r th _,fun w'=>by simp only[aQ,JD,aL,binOp,MX (PK hT hk),bT]⟩
  ·cases hq
 ·obtain rfl:=h2.r_inv
  split at hq
  ·rename_i hk hn;cases hq
   obtain⟨ad,l,c,rfl,rfl⟩:=M0 h1 hn;exact⟨_,.r th _,fun w'=>by simp only[aQ,I3,aL,binOp,O4 (Aj hT hk),bT]⟩
  ·rename_i hk hn;cases hq
   obtain⟨ad,l,c,rfl,rfl⟩:=M0 h1 hn;exact⟨_,.r th _,fun w'=>by simp only[aQ,I3,aL,binOp,O4 (Aj hT hk),bT]⟩
  ·cases hq
 ·cases hq
theorem Rh {Y:Operand}(h:FN Y=true):Y= .const .nilIface:=by
 unfold FN at h;split at h
 ·rfl
 ·cases h
theorem Hf {T:TypeId}{ms:Array (String×TypeId)}(hu:P.underlying T=some (.interface ms))(w:World):(Op.equal T .nilIface .nilIface).run P w= .ok true w/\ ∀t v,(Op.equal T (.iface t v) .nilIface).run P w= .ok false w:=by
 have e: ∀a,Op.equal T a .nilIface=Op.equalIn (9999+1) T a .nilIface:=fun _=>rfl;refine⟨?_,fun t v=>?_⟩
 ·rw[e,Op.equalIn];simp[AD hu]
 ·rw[e,Op.equalIn];simp[AD hu]
theorem Rk {op:BinOp}{T:TypeId}{y:TY}(hT:AK P T=some y){v:Value}{r:AV}(hq:UJ op y v=some r):
  ∃u,r= .r u/\ ∀(X:Operand) w',(do eqGuard op T X (.const .nilIface) v .nilIface;binOp op T v .nilIface:Sem Value).run P w'= .ok u w':=by
 unfold UJ at hq;split at hq
 ·rename_i hk;cases hq;obtain⟨ms,hu⟩:=Kv hT hk
  exact⟨_,rfl,fun X w'=>by simp[eqGuard,binOp,(Hf hu w').1]⟩
 ·rename_i hk;cases hq;obtain⟨ms,hu⟩:=Kv hT hk
  exact⟨_,rfl,fun X w'=>by simp[eqGuard,binOp,(Hf hu w').1]⟩
 ·rename_i hk;cases hq;obtain⟨ms,hu⟩:=Kv hT hk
  exact⟨_,rfl,fun X w'=>by simp[eqGuard,binOp,(Hf hu w').2]⟩
 ·rename_i hk;cases hq;obtain⟨ms,hu⟩:=Kv hT hk
  exact⟨_,rfl,fun X w'=>by simp[eqGuard,binOp,(Hf hu w').2]⟩
 ·cases hq
theorem TL {op:UnOp}{x r:AV}{v:Value}(h:Rep w z th x v)(hq:unA op x=some r): ∃u,Rep w z th r u/\ ∀w',(Op.unary op v).run P w'= .ok u w':=by
 unfold unA at hq;split at hq
 ·cases hq;obtain rfl:=h.r_inv;exact⟨_,.r th _,fun w'=>by simp[Op.unary]⟩
 ·cases hq;obtain rfl:=h.r_inv;exact⟨_,.r th _,fun w'=>by simp[Op.unary,Op.intArith]⟩
 ·cases hq
theorem I4 (h:Sim E N st th z a w){x:AV}{v:Value}(hr:Rep w z th x v){k:Nat}{els:List (List AV)}(he:D1 st k x=some els):
  ∃ad c,v= .slice ad els.length c/\els.length≤c/\(els=[]\/ ∃b o,ad=some ⟨b,o,none⟩/\b<w.heap.size/\Kn st th z b/\
   ∀(i:Nat)(e:List AV),els[i]?=some e->e.length=k/\ ∀(j:Nat)(x:AV),e[j]?=some x-> ∃y,w.cell? ⟨b,o+i * k+j,none⟩=some y/\Rep w z [] x y/\y.oneCell'=true):=by
 unfold D1 at he;split at he
 ·split at he
  ·rename_i hk;subst hk;cases he
   obtain⟨ad,c,rfl,hc,h1 |⟨b,o,rfl,hz,h2⟩⟩:=hr.ro_inv
   ·exact⟨ad,c,rfl,hc,.inl h1⟩
   ·exact⟨_,c,rfl,hc,.inr ⟨b,o,rfl,h.mem.zlt _ _ hz,.inl ⟨_,hz⟩,h2⟩⟩
  ·cases he
 ·rename_i n lo len
  obtain⟨L,hL,hcase⟩:=hr.s_inv;split at he
  ·rename_i T k' l hn
   split at he
   ·rename_i hle;obtain⟨rfl,hle⟩:=hle;cases he
    have hlen:((l.drop lo).take len).length=len:=by simp;omega
    rcases hcase with ⟨_,rfl,rfl⟩ |⟨hp,c,o,rfl,hl,hcap,ho⟩
    ·exact⟨none,0,by simp,by simp,.inl (by simp)⟩
    refine⟨_,c,by rw[hlen],by rw[hlen];exact hl,?_⟩;obtain⟨L',h1,hnd,h8⟩:=h.mem.nds _ _ hn;rw[hL] at h1;cases h1
    rcases hnd with ⟨hp',_⟩ |⟨_,cells,fr,h2,h3,h4,h5,h6,h7⟩
    ·rw[hp] at hp';cases hp'
    by_cases hz:len=0
    ·left;subst hz;simp
    ·right
     have ho:=ho (by omega);subst ho;refine⟨L.b,_,rfl,(h8 hp).1,.inr ⟨n,_,L,hn,hL,hp,rfl⟩,fun i e hi=>?_⟩;rw[dV] at hi;split at hi
     ·rw[bI] at hi
      obtain⟨k1,k2⟩:=h7 _ _ hi;refine⟨k1.trans h4,fun j x hj=>?_⟩;obtain⟨y,hy,hr⟩:=k2 j x hj;refine⟨y,?_,hr⟩;rw[Bj h2,<-h4,show L.o+lo * L.k+i * L.k+j=L.o+(lo+i) * L.k+j by rw[bJ];omega];exact hy
     ·cases hi
   ·cases he
  ·cases he
 ·cases he;obtain rfl:=hr.r_inv;exact⟨_,_,rfl,aU _,.inl rfl⟩
 ·cases he
theorem PL: ∀ {els:List (List AV)}{bs:List UInt8},Xz els=some bs->els=bs.map AC
 | [],bs,h=>by simp only[Xz,aM] at h;subst h;rfl
 |e::r,bs,h=>by
  unfold Xz at h;split at h
  ·cases h;rename_i hh;cases hh
  ·rename_i n r' hh
   cases hh;split at h
   ·rename_i l hl
    split at h
    ·rename_i hn;cases h
     have:=PL hl;rw[this,List.map_cons];simp only[AC];rw[<-hn]
    ·cases h
   ·cases h
  ·cases h
theorem Ua (h:Sim E N st th z a w){S D:TypeId}{s d:TY}(hS:AK P S=some s)(hD:AK P D=some d){x r:AV}{v:Value}(hr:Rep w z th x v)(hq:cvA P st s d x=some r):
  ∃u,Rep w z th r u/\ ∀w',SameK st th z w w'->(convert S D v).run P w'= .ok u w':=by
 unfold cvA at hq;split at hq
 ·obtain rfl:=hr.r_inv
  split at hq
  ·rename_i k hk;cases hq
   obtain⟨i,dd,_,hu,_⟩:=BE hS;refine⟨_,.r th _,fun w' _=>?_⟩;simp only[convert,aQ,AD hu,AD (ER hD hk),aL];simp[Conv.intToInt]
  ·cases hq
 ·obtain rfl:=hr.r_inv
  split at hq
  ·rename_i hk1 hk2;cases hq
   refine⟨_,.r th _,fun w' _=>?_⟩;simp[convert,AD (FJ hS hk1),AD (FJ hD hk2)]
  ·cases hq
 ·split at hq
  ·rename_i e hk1 hk2
   split at hq
   ·rename_i sz by' ze els he hel
    split at hq
    ·rename_i bs hb;cases hq
     have hb:=PL hb;obtain⟨ad,c,rfl,hc,hcell⟩:=I4 h hr hel;refine⟨_,.r th _,fun w' ew=>?_⟩
     have hl:els.length=bs.length:=by rw[hb];simp
     cases ad with
     |none=>
      have hn:els=[]:=by
       rcases hcell with h1 |⟨b,o,h1,_⟩
       ·exact h1
       ·cases h1
      have:bs=[]:=by rw[hn] at hl;exact bV.1 (by simpa using hl.symm)
      subst this;rw[run_convert_bytes_string w' S D e none _ c (Aj hS hk1) (ER he rfl) (FJ hD hk2)];simp[Conv.bytesToString]
      rfl
     |some ad=>
      rw[hl];refine run_convert_bytes_back w' S D e ad c bs (Aj hS hk1) (ER he rfl) (FJ hD hk2) (fun j hj=>?_)
      rcases hcell with h1 |⟨b,o,h1,_,hlt,h2⟩
      ·rw[h1] at hl;simp at hl;omega
      ·cases h1
       obtain⟨_,h3⟩:=h2 j (AC bs[j]) (by rw[hb];simp[hj]);obtain⟨y,hy,hr,_⟩:=h3 0 _ rfl;have:=hr.r_inv;subst this;rw[Cc,QN ew hlt];simpa using hy
    ·cases hq
   ·cases hq
  ·cases hq
end
section
variable {P:Program} {E:Env} {N:Nat} {st:AS} {th:List NLoc} {z:AO} {a:Act} {w:World}
theorem CI {k:IntKind}{i:Int}{y:Nat}{c:BoundsCode}(h0:0≤i)(h1:i≤y)(w:World):(Instr.sliceBound (.int k i) y c).run P w= .ok i.toNat w:=by
 simp[Instr.sliceBound,asIntOf,h0,h1]
theorem UK (h:Sim E N st th z a w){hi:Option Operand}{hi':Option AV}(hh:DQ st E.G hi=some hi'){len q:Nat}(hb:YJ len hi'=some q)(isS:Bool){cap:Nat}(hc:len≤cap):
  q≤len∧ ∀w',(match hi.map a.eval,(none:Option Value) with |some v,some _=>Instr.sliceBound v cap .slice3B |some v,none=>Instr.sliceBound v cap (if isS then .sliceAcap else .sliceAlen) |none,none=>pure len |none,some _=>stuck "Slice: max without high" :Sem Nat).run P w'= .ok q w':=by
 cases hi with
 |none=>
  simp only[DQ,aM] at hh;subst hh;simp only[YJ,aM] at hb;subst hb;exact⟨Nat.le_refl _,fun w'=>rfl⟩
 |some x=>
  simp only[DQ,aF] at hh;obtain⟨av,he,rfl⟩:=hh;have hr:=AL h he;unfold YJ at hb;split at hb
  ·rename_i hx;cases hx
  ·rename_i k hv hx
   simp only[aM] at hx;subst hx;split at hb
   ·rename_i hc';cases hb
    have:=hr.r_inv;refine⟨by omega,fun w'=>?_⟩;simp only[Option.map_some,this];exact CI hc'.1 (by omega) w'
   ·cases hb
  ·cases hb
theorem Fw (h:Sim E N st th z a w){lo hi:Option Operand}{lo' hi':Option AV}(hl:DQ st E.G lo=some lo')(hh:DQ st E.G hi=some hi'){len l r:Nat}(hb:Xr len lo' hi'=some (l,r))(isS:Bool){cap:Nat}(hc:len≤cap):
  l≤r/\r≤len/\ ∀w',(Instr.sliceBounds isS len cap (lo.map a.eval) (hi.map a.eval) none).run P w'= .ok (l,r,cap) w':=by
 unfold Xr at hb;split at hb
 ·cases hb
 rename_i q hq;obtain⟨hqle,hrun⟩:=UK (P:=P) h hh hq isS hc;simp only[aF,cH] at hb;obtain⟨l',hl',rfl,rfl⟩:=hb
 cases lo with
 |none=>
  simp only[DQ,aM] at hl;subst hl;simp only[YE,aM] at hl';subst hl';refine⟨aU _,hqle,fun w'=>?_⟩;have hr':=hrun w';clear hrun
  cases hi with
  |none=>simp at hr';subst hr';simp[Instr.sliceBounds]
  |some x=>simp only[Option.map_some] at hr';simp[Instr.sliceBounds,hr']
 |some x=>
  simp only[DQ,aF] at hl;obtain⟨av,he,rfl⟩:=hl;have hr:=AL h he;unfold YE at hl';split at hl'
  ·rename_i hx;cases hx
  ·rename_i k lv hx
   simp only[aM] at hx;subst hx;split at hl'
   ·rename_i hc';cases hl'
    have:=hr.r_inv;refine⟨by omega,hqle,fun w'=>?_⟩;have hr':=hrun w';clear hrun
    cases hi with
    |none=>simp at hr';subst hr';simp[Instr.sliceBounds,this,CI hc'.1 hc'.2]
    |some x=>simp only[Option.map_some] at hr';simp[Instr.sliceBounds,hr',this,CI hc'.1 hc'.2]
   ·cases hl'
  ·cases hl'
theorem TW (h:Sim E N st th z a w){T:TypeId}{y:TY}(hT:AK P T=some y){x r:AV}{v:Value}(hr:Rep w z th x v){lo hi:Option Operand}{lo' hi':Option AV}(hl:DQ st E.G lo=some lo')(hh:DQ st E.G hi=some hi')
  (hq:Yf P st y lo' hi' x=some r): ∃u,Rep w z th r u/\ ∀w',SameK st th z w w'->(Instr.sliceAt T v (lo.map a.eval) (hi.map a.eval) none).run P w'= .ok u w':=by
 unfold Yf at hq;split at hq
 ·obtain rfl:=hr.r_inv
  split at hq
  ·rename_i hk
   simp only[aF] at hq;obtain⟨⟨l,q⟩,hb,rfl⟩:=hq;obtain⟨h1,h2,h3⟩:=Fw (P:=P) h hl hh hb false (Nat.le_refl _);refine⟨_,.r th _,fun w' _=>?_⟩;simp[Instr.sliceAt,Instr.slice,AD (FJ hT hk),h3]
  ·cases hq
 ·rename_i t k els
  split at hq
  ·rename_i e hk
   split at hq
   ·rename_i ye he
    split at hq
    ·rename_i hke;subst hke
     simp only[aF] at hq;obtain⟨⟨l,q⟩,hb,rfl⟩:=hq;obtain⟨ad,c,rfl,hc,hcell⟩:=hr.ro_inv;obtain⟨h1,h2,h3⟩:=Fw (P:=P) h hl hh hb true hc
     have hlen:((els.take q).drop l).length=q - l:=by simp;omega
     refine⟨.slice (if c=l then ad else ad.map (·.add (l * ye.size))) (q - l) (c - l),?_,fun w' _=>?_⟩
     ·by_cases hz:q - l=0
      ·have:(els.take q).drop l=[]:=bV.1 (by omega)
       simp only[this,hz];exact .nil _ _ _ _ _
      ·rcases hcell with hn |⟨b,o,rfl,hzb,hcell⟩
       ·subst hn;simp at h2;omega
       ·rw[if_neg (by omega)]
        simp only[Option.map_some,Cc];rw[<-hlen];refine Rep.ro_mk hzb (by rw[hlen];omega) (fun i e' he'=>?_);rw[bI,dV] at he';split at he'
        ·obtain⟨k1,k2⟩:=hcell _ _ he'
         refine⟨k1,fun j x hj=>?_⟩;obtain⟨y,hy,hr⟩:=k2 j x hj;exact⟨y,by rw[show o+l * ye.size+i * ye.size+j=o+(l+i) * ye.size+j by rw[bJ];omega];exact hy,hr⟩
        ·cases he'
     ·simp[Instr.sliceAt,Instr.slice,AD (Aj hT hk),h3,As he]
    ·cases hq
   ·cases hq
  ·cases hq
 ·rename_i n lo0 len
  split at hq
  ·rename_i e hk
   split at hq
   ·rename_i ye k' he hn0
    split at hq
    ·rename_i hke;subst hke
     obtain⟨nd,hn,hkN⟩:=M8 hn0;simp only[aF] at hq;obtain⟨⟨l,q⟩,hb,rfl⟩:=hq;obtain⟨L,hL,hcase⟩:=hr.s_inv;obtain⟨L',h1',hnd,_⟩:=h.mem.nds _ _ hn;rw[hL] at h1';cases h1'
     rcases hcase with ⟨hp,rfl,rfl⟩ |⟨hp,c,o,rfl,hlc,hcap,ho⟩
     ·obtain⟨h1,h2,h3⟩:=Fw (P:=P) h hl hh hb true (Nat.le_refl 0)
      obtain rfl:l=0:=by omega
      obtain rfl:q=0:=by omega
      refine⟨.slice none 0 0,.sn th n _ L hL hp,fun w' _=>?_⟩;simp[Instr.sliceAt,Instr.slice,AD (Aj hT hk),h3,As he]
     obtain⟨h1,h2,h3⟩:=Fw (P:=P) h hl hh hb true hlc;have hkk:L.k=ye.size:=(hkN _ _ _ _ hnd).resolve_left (by rw[hp];exact dM);refine⟨.slice (some (if c=l then ⟨L.b,o,none⟩ else ⟨L.b,o+l * ye.size,none⟩)) (q - l) (c - l),?_,fun w' _=>?_⟩
     ·by_cases hcl:c=l
      ·rw[if_pos hcl]
       exact .s th n _ _ _ o L hL hp (by omega) (by omega) (fun hh=>by omega)
      ·rw[if_neg hcl]
       refine .s th n _ _ _ _ L hL hp (by omega) (by omega) (fun hh=>?_);have:=ho (by omega);subst this;rw[<-hkk,bJ,dO]
     ·simp[Instr.sliceAt,Instr.slice,AD (Aj hT hk),h3,As he,Cc]
      split<;>rfl
    ·cases hq
   ·cases hq
  ·cases hq
 ·obtain rfl:=hr.r_inv
  split at hq
  ·rename_i e hk
   split at hq
   ·rename_i ye he
    simp only[aF] at hq;obtain⟨⟨l,q⟩,hb,rfl⟩:=hq;obtain⟨h1,h2,h3⟩:=Fw (P:=P) h hl hh hb true (Nat.le_refl 0)
    obtain rfl:l=0:=by omega
    obtain rfl:q=0:=by omega
    refine⟨_,.r th _,fun w' _=>?_⟩;simp only[Instr.sliceAt,Instr.slice,aQ,AD (Aj hT hk),h3,aL];simp[As he]
   ·cases hq
  ·cases hq
 ·cases hq
theorem GS (h:Sim E N st th z a w){lo:Option Operand}{hi m:Operand}{lo':Option AV}{kh km:IntKind}{hv mv:Int}(hl:DQ st E.G lo=some lo')(hh:ev st E.G hi=some (.r (.int kh hv)))(hm:ev st E.G m=some (.r (.int km mv)))
  {len l r:Nat} (hb:Xr len lo' (some (.r (.int kh hv)))=some (l,r)) (h0:0≤mv) (h1:mv≤len) (h2:hv≤mv) {cap:Nat} (hc:len≤cap):
  l≤r/\(r:Int)≤mv/\ ∀w',(Instr.sliceBounds true len cap (lo.map a.eval) (some (a.eval hi)) (some (a.eval m))).run P w'= .ok (l,r,mv.toNat) w':=by
 have eh:=(AL h hh).r_inv;have em:=(AL h hm).r_inv;unfold Xr at hb;split at hb
 ·cases hb
 rename_i q hq;simp only[YJ] at hq;split at hq
 ·rename_i hc'
  simp only[aM] at hq;subst hq;simp only[aF,cH] at hb;obtain⟨l',hl',rfl,rfl⟩:=hb
  have e1: ∀w',(Instr.sliceBound (a.eval m) cap .slice3Acap).run P w'= .ok mv.toNat w':=fun w'=>by rw[em];exact CI h0 (by omega) w'
  have e2: ∀w',(Instr.sliceBound (a.eval hi) mv.toNat .slice3B).run P w'= .ok hv.toNat w':=fun w'=>by rw[eh];exact CI hc'.1 (by omega) w'
  cases lo with
  |none=>
   simp only[DQ,aM] at hl;subst hl;simp only[YE,aM] at hl';subst hl';refine⟨aU _,by omega,fun w'=>?_⟩;simp[Instr.sliceBounds,e1,e2]
  |some x=>
   simp only[DQ,aF] at hl;obtain⟨av,he,rfl⟩:=hl;have hr:=AL h he;unfold YE at hl';split at hl'
   ·rename_i hx;cases hx
   ·rename_i k lv hx
    simp only[aM] at hx;subst hx;split at hl'
    ·rename_i hc2;cases hl'
     have:=hr.r_inv;refine⟨by omega,by omega,fun w'=>?_⟩;simp[Instr.sliceBounds,e1,e2,this,CI hc2.1 hc2.2]
    ·cases hl'
   ·cases hl'
 ·cases hq
theorem RA (h:Sim E N st th z a w){T:TypeId}{y:TY}(hT:AK P T=some y){x r:AV}{v:Value}(hr:Rep w z th x v){lo:Option Operand}{hi m:Operand}{lo':Option AV}{hi' m':AV}(hl:DQ st E.G lo=some lo')(hh:ev st E.G hi=some hi')(hm:ev st E.G m=some m')
  (hq:VB P st y lo' hi' m' x=some r): ∃u,Rep w z th r u/\ ∀w',SameK st th z w w'->(Instr.sliceAt T v (lo.map a.eval) (some (a.eval hi)) (some (a.eval m))).run P w'= .ok u w':=by
 unfold VB at hq;split at hq
 case h_2=>cases hq
 rename_i ni mi hii kn nn km mv kh hv hlen;split at hq
 case isFalse=>cases hq
 rename_i hcond;obtain⟨hm0,hm1,hm2⟩:=hcond;unfold Yf at hq;split at hq
 ·rename_i s;simp[Hn] at hlen
 ·rename_i t k els
  simp only[Hn,aM,AV.r.injEq,Value.int.injEq] at hlen;obtain⟨rfl,rfl⟩:=hlen;split at hq
  ·rename_i e hk
   split at hq
   ·rename_i ye he
    split at hq
    ·rename_i hke;subst hke
     simp only[aF] at hq;obtain⟨⟨l,q⟩,hb,rfl⟩:=hq;obtain⟨ad,c,rfl,hc,hcell⟩:=hr.ro_inv;obtain⟨h1,h2,h3⟩:=GS (P:=P) h hl hh hm hb hm0 hm1 hm2 hc
     have hlen:((els.take q).drop l).length=q - l:=by simp;omega
     refine⟨.slice (if mv.toNat=l then ad else ad.map (·.add (l * ye.size))) (q - l) (mv.toNat - l),?_,fun w' _=>?_⟩
     ·by_cases hz:q - l=0
      ·have:(els.take q).drop l=[]:=bV.1 (by omega)
       simp only[this,hz];exact .nil _ _ _ _ _
      ·rcases hcell with hn |⟨b,o,rfl,hzb,hcell⟩
       ·subst hn;simp at hm1;omega
       ·rw[if_neg (by omega)]
        simp only[Option.map_some,Cc];rw[<-hlen];refine Rep.ro_mk hzb (by rw[hlen];omega) (fun i e' he'=>?_);rw[bI,dV] at he';split at he'
        ·obtain⟨k1,k2⟩:=hcell _ _ he'
         refine⟨k1,fun j x hj=>?_⟩;obtain⟨y,hy,hr⟩:=k2 j x hj;exact⟨y,by rw[show o+l * ye.size+i * ye.size+j=o+(l+i) * ye.size+j by rw[bJ];omega];exact hy,hr⟩
        ·cases he'
     ·simp[Instr.sliceAt,Instr.slice,AD (Aj hT hk),h3,As he]
    ·cases hq
   ·cases hq
  ·cases hq
 ·rename_i n lo0 len
  simp only[Hn,aM,AV.r.injEq,Value.int.injEq] at hlen;obtain⟨rfl,rfl⟩:=hlen;split at hq
  ·rename_i e hk
   split at hq
   ·rename_i ye k' he hn0
    split at hq
    ·rename_i hke;subst hke
     obtain⟨nd,hn,hkN⟩:=M8 hn0;simp only[aF] at hq;obtain⟨⟨l,q⟩,hb,rfl⟩:=hq;obtain⟨L,hL,hcase⟩:=hr.s_inv;obtain⟨L',h1',hnd,_⟩:=h.mem.nds _ _ hn;rw[hL] at h1';cases h1'
     rcases hcase with ⟨hp,rfl,rfl⟩ |⟨hp,c,o,rfl,hlc,hcap,ho⟩
     ·obtain⟨h1,h2,h3⟩:=GS (P:=P) h hl hh hm hb hm0 hm1 hm2 (Nat.le_refl 0)
      obtain rfl:mv=0:=by omega
      obtain rfl:q=0:=by omega
      obtain rfl:l=0:=by omega
      refine⟨.slice none 0 0,.sn th n _ L hL hp,fun w' _=>?_⟩;simp[Instr.sliceAt,Instr.slice,AD (Aj hT hk),h3,As he]
     obtain⟨h1,h2,h3⟩:=GS (P:=P) h hl hh hm hb hm0 hm1 hm2 hlc;have hkk:L.k=ye.size:=(hkN _ _ _ _ hnd).resolve_left (by rw[hp];exact dM);refine⟨.slice (some (if mv.toNat=l then ⟨L.b,o,none⟩ else ⟨L.b,o+l * ye.size,none⟩)) (q - l) (mv.toNat - l),?_,fun w' _=>?_⟩
     ·by_cases hcl:mv.toNat=l
      ·rw[if_pos hcl]
       exact .s th n _ _ _ o L hL hp (by omega) (by omega) (fun hh=>by omega)
      ·rw[if_neg hcl]
       refine .s th n _ _ _ _ L hL hp (by omega) (by omega) (fun hh=>?_);have:=ho (by omega);subst this;rw[<-hkk,bJ,dO]
     ·simp[Instr.sliceAt,Instr.slice,AD (Aj hT hk),h3,As he,Cc]
      split<;>rfl
    ·cases hq
   ·cases hq
  ·cases hq
 ·obtain rfl:=hr.r_inv
  simp only[Hn,aM,AV.r.injEq,Value.int.injEq] at hlen;obtain⟨rfl,rfl⟩:=hlen;split at hq
  ·rename_i e hk
   split at hq
   ·rename_i ye he
    simp only[aF] at hq;obtain⟨⟨l,q⟩,hb,rfl⟩:=hq;obtain⟨h1,h2,h3⟩:=GS (P:=P) h hl hh hm hb hm0 hm1 hm2 (Nat.le_refl 0)
    obtain rfl:mv=0:=by omega
    obtain rfl:q=0:=by omega
    obtain rfl:l=0:=by omega
    refine⟨_,.r th _,fun w' _=>?_⟩;simp only[Instr.sliceAt,Instr.slice,aQ,AD (Aj hT hk),h3,aL];simp[As he]
   ·cases hq
  ·cases hq
 ·cases hq
theorem SE {x r:AV}{v:Value}(hr:Rep w z th x v){T:TypeId}{y:TY}(hq:WE x y.k=some r)(hT:AK P T=some y): ∃u,Rep w z th r u/\ ∀w' ty,(Builtin.cap_ #[T] ty #[v]).run P w'= .ok u w':=by
 unfold WE at hq;split at hq
 ·rename_i e hk
  split at hq
  ·cases hq
   obtain rfl:=hr.r_inv;exact⟨_,.r _ _,fun w' ty=>by simp[Builtin.cap_,AD (Aj hT hk),goInt]⟩
  ·cases hq
 ·cases hq
theorem Il {d:Nat}{x r:AV}{v:Value}(hr:Rep w z th x v)(hq:Jh d x=some r): ∃b o,v= .pointer (some ⟨b,o,none⟩)/\Rep w z th r (.pointer (some ⟨b,o+d,none⟩)):=by
 unfold Jh at hq;split at hq
 ·cases hq
  obtain⟨b,o,rfl,hz,hc⟩:=hr.re_inv;exact⟨b,_,rfl,by rw[dO];exact Rep.re_mk hz hc⟩
 ·cases hq
  obtain⟨L,hL,rfl⟩:=hr.p_inv;exact⟨L.b,_,rfl,by rw[dO];exact .p th _ _ _ L hL⟩
 ·cases hq
theorem UH (h:Sim E N st th z a w){T:TypeId}{y:TY}(hT:AK P T=some y){x r:AV}{v:Value}(hr:Rep w z th x v){k:IntKind}{i:Int}(hq:ixA st P y i x=some r):
  ∃u,Rep w z th r u/\ ∀w',(Instr.indexAt T v (.int k i)).run P w'= .ok u w':=by
 unfold ixA at hq;split at hq
 ·rename_i e hk
  split at hq
  ·rename_i ye t k' els he
   split at hq
   ·rename_i hc;obtain⟨rfl,h0⟩:=hc
    simp only[aF] at hq;obtain⟨c,hc,rfl⟩:=hq;have hi:i.toNat<els.length:=(aA.1 hc).1;obtain⟨ad,cap,rfl,hcap,hn |⟨b,o,rfl,hz,hcell⟩⟩:=hr.ro_inv
    ·subst hn;simp at hi
    ·obtain⟨_,h3⟩:=hcell _ _ hc
     refine⟨.pointer (some ⟨b,o+i.toNat * ye.size+0,none⟩),Rep.re_mk hz (fun j x hj=>let ⟨y,h1,h2,_⟩:=h3 j x hj;⟨y,h1,h2⟩),fun w'=>?_⟩;have:0≤i/\i<els.length:=⟨h0,by omega⟩;simp[Instr.indexAt,asIntOf,AD (Aj hT hk),this,As he,Cc]
   ·cases hq
  ·rename_i ye n lo len he
   split at hq
   ·rename_i k' hn0
    split at hq
    ·rename_i hc;obtain⟨rfl,h0,h1⟩:=hc;cases hq
     obtain⟨nd,hn,hkN⟩:=M8 hn0;obtain⟨L,hL,hcase⟩:=hr.s_inv;obtain⟨L',h1',hnd,_⟩:=h.mem.nds _ _ hn;rw[hL] at h1';cases h1'
     rcases hcase with ⟨_,rfl,_⟩ |⟨hp,c,o,rfl,hlc,hcap,ho⟩
     ·omega
     have hkk:L.k=ye.size:=(hkN _ _ _ _ hnd).resolve_left (by rw[hp];exact dM);have ho:=ho (by omega);subst ho;refine⟨.pointer (some ⟨L.b,L.o+(lo+i.toNat) * L.k+0,none⟩),.p th n _ 0 L hL,fun w'=>?_⟩;simp[Instr.indexAt,asIntOf,AD (Aj hT hk),h0,h1,As he,Cc];rw[<-hkk,bJ,dO]
    ·cases hq
   ·cases hq
  ·cases hq
 ·rename_i m e hk
  split at hq
  ·rename_i ye he
   split at hq
   ·rename_i hc
    obtain⟨b,o,rfl,hr'⟩:=Il hr hq;refine⟨_,hr',fun w'=>?_⟩;simp[Instr.indexAt,Instr.sureAddr,asIntOf,AD (Ib hT hk),hc,As he,Cc]
   ·cases hq
  ·cases hq
 ·cases hq
end
section
variable {P:Program} {E:Env} {N:Nat} {st:AS} {th:List NLoc} {z:AO} {a:Act} {w:World}
theorem GF (off:Nat): ∀(new:List Value)(s:Nat)(cs:Array Value),off+s+new.length≤cs.size->
  ((new.zipIdx s).foldl (fun cs p=>cs.setIfInBounds (off+p.2) p.1) cs).toList=cs.toList.take (off+s)++new++cs.toList.drop (off+s+new.length)
 | [],s,cs,_=>by simp
 |x::new,s,cs,h=>by
  simp only[List.length_cons] at h;rw[List.zipIdx_cons,List.foldl_cons,GF off new (s+1) _ (by simp;omega)];simp only[Array.toList_setIfInBounds,List.length_cons]
  have hs:cs.toList.length=cs.size:=by simp
  rw[List.set_eq_take_append_cons_drop,if_pos (by omega)]
  have hl:(cs.toList.take (off+s)).length=off+s:=by rw[aS];omega
  have e1:List.take (off+(s+1)) (List.take (off+s) cs.toList++x::List.drop (off+s+1) cs.toList)=List.take (off+s) cs.toList++[x]:=by
   rw[List.take_append,hl,aN (by omega),show off+(s+1) - (off+s)=1 by omega];simp
  have e2:List.drop (off+(s+1)+new.length) (List.take (off+s) cs.toList++x::List.drop (off+s+1) cs.toList)=List.drop (off+s+(new.length+1)) cs.toList:=by
   rw[List.drop_append,hl,aR (by omega),show off+(s+1)+new.length - (off+s)=new.length+1 by omega,List.nil_append,List.drop_succ_cons,List.drop_drop]
   congr 1;omega
  rw[e1,e2];simp
theorem CS {x:AV}{v:Value}(hr:Rep w z th x v)(ho:x.okPart=true):Reps w z th x.cells v.cells.toList:=by
 have one: ∀(x:AV)(v:Value),Rep w z th x v->Reps w z th [x] [v]:=fun x v h=> .cons h .nil
 cases hr with
 |r _ v=>cases v<;>first |exact one _ _ (.r th _) |(simp[AV.okPart] at ho)
 |nil _ t k ad c=>exact one _ _ (.nil th t k ad c)
 |ro _ t k els b o c ys hz hc hk hy h1 hx=>exact one _ _ (.ro th t k els b o c ys hz hc hk hy h1 hx)
 |re _ t c b o off ys hz hy hx=>exact one _ _ (.re th t c b o off ys hz hy hx)
 |s _ n lo len c x L hL hp hl hc hx=>exact one _ _ (.s th n lo len c x L hL hp hl hc hx)
 |sn _ n lo L hL hp=>exact one _ _ (.sn th n lo L hL hp)
 |p _ n i off L hL=>exact one _ _ (.p th n i off L hL)
 |agg _ c ys hl hx=>simp only[Value.cells,AV.cells];exact⟨hl,hx⟩
 |tup _ c ys hl hx=>exact one _ _ (.tup th c ys hl hx)
 |fn _ f c ys hl hx=>exact one _ _ (.fn th f c ys hl hx)
 |ifc _ t x v hx=>exact one _ _ (.ifc th t x v hx)
 |q _ n L hL=>exact one _ _ (.q th n L hL)
 |any _ v=>simp[AV.okPart] at ho
theorem Reps.splice {cs new:List AV}{ys us:List Value}{off:Nat}(h:Reps w z th cs ys)(h':Reps w z th new us):Reps w z th (splice cs off new) (ys.take off++us++ys.drop (off+us.length)):=by
 unfold Go.AM.splice;rw[h'.1];exact((h.take off).append h').append (h.drop _)
theorem IP (h:Sim E N st th z a w)(place:Nat->Option (Nat×Nat)): ∀(l:List (Nat×Operand))(l':List (Nat×AV))(cs:List AV)(ys:Array Value)(c:List AV),GI st E.G l=some l'->Reps w z th cs ys.toList->JA place cs l'=some c->
  ∃us:Array Value,Instr.fill place ys (l.map fun p=>(p.1,a.eval p.2))=some us/\Reps w z th c us.toList
 | [],l',cs,ys,c,he,hr,hf=>by
   simp only[GI,aM] at he;subst he;simp only[JA,aM] at hf;subst hf;exact⟨ys,rfl,hr⟩
 |(i,x)::l,l',cs,ys,c,he,hr,hf=>by
  simp only[GI] at he;split at he
  ·rename_i av l2 h1 h2;cases he
   unfold JA at hf;split at hf
   ·cases hf
   ·rename_i off sz hp
    split at hf
    ·rename_i hc;obtain⟨h3,h4,h5⟩:=hc
     have hv:=AL h h1;have hcells:=CS hv h5
     have hsz:(a.eval x).cells.size=sz:=by
      have:=hcells.1;rw[h3] at this;simpa using this
     have hys:ys.size=cs.length:=by simpa using hr.1
     have key:=GF off (a.eval x).cells.toList 0 ys (by simp[hsz];omega);simp only[Nat.add_zero] at key;obtain⟨us,hus,hru⟩:=IP h place l l2 (splice cs off av.cells) _ c h2 (by rw[key];exact hr.splice hcells) hf;refine⟨us,?_,hru⟩;simp only[List.map_cons,Instr.fill,hp];rw[if_neg (by simp[hsz];omega)];rw[<-hus]
     congr 1
     rw[<-Array.foldl_toList,Array.toList_zipIdx]
    ·cases hf
  ·cases he
theorem Ie {r:Nat}{es:Array MapEntry}{ck:Nat}(hb:w.heap[r]?=some (.map es ck)):(getObj r).run P w= .ok (.map es ck) w:=by simp[getObj,Sem.run,hb]
theorem Rf (h:Sim E N st th z a w){x r:AV}{y:TY}{v:Value}(hr:Rep w z th x v)(hq:Vg st x y.k=some r){T:TypeId}(hT:AK P T=some y):
  ∃u,Rep w z th r u/\ ∀w' ty,SameK st th z w w'->(Builtin.len_ #[T] ty #[v]).run P w'= .ok u w':=by
 unfold Vg at hq;split at hq
 ·rename_i e hk
  have hs: ∀(ad:Option Addr)(l c:Nat) w' ty,(Builtin.len_ #[T] ty #[.slice ad l c]).run P w'= .ok (.int .i64 l) w':=by
   intro ad l c w' ty;simp[Builtin.len_,AD (Aj hT hk),goInt]
  unfold Hn at hq;split at hq
  ·cases hq
   obtain⟨ad,c,rfl,_⟩:=hr.ro_inv;exact⟨_,.r th _,fun w' ty _=>hs _ _ _ _ _⟩
  ·cases hq
   obtain⟨L,_,⟨_,rfl,rfl⟩ |⟨_,c,o,rfl,_⟩⟩:=hr.s_inv
   ·exact⟨_,.r th _,fun w' ty _=>hs _ _ _ _ _⟩
   ·exact⟨_,.r th _,fun w' ty _=>hs _ _ _ _ _⟩
  ·cases hq
   obtain rfl:=hr.r_inv;exact⟨_,.r th _,fun w' ty _=>hs _ _ _ _ _⟩
  ·cases hq
 ·rename_i k e hk
  unfold Z6 at hq;split at hq
  ·rename_i n
   split at hq
   ·rename_i l hl;cases hq
    obtain⟨L,hL,rfl⟩:=hr.q_inv;obtain⟨L',h1,⟨hp,es,ck,h2,h3,_⟩,h4⟩:=h.mem.nds _ _ hl;rw[hL] at h1;cases h1;refine⟨_,.r th _,fun w' ty hs=>?_⟩;have hb:=hs L.b (.inr ⟨n,_,L,hl,hL,hp,rfl⟩);rw[h2] at hb
    have hlen:es.size=l.length:=by have:=congrArg List.length h3;simpa using this
    simp[Builtin.len_,AD (OJ hT hk),goInt,Ie hb,hlen]
   ·cases hq
  ·cases hq
 ·rename_i hk
  split at hq
  ·cases hq
   obtain rfl:=hr.r_inv;exact⟨_,.r th _,fun w' ty _=>by simp[Builtin.len_,AD (FJ hT hk),goInt]⟩
  ·cases hq
 ·rename_i n e hk
  cases hq;exact⟨_,.r th _,fun w' ty _=>by simp[Builtin.len_,AD (Ib hT hk),goInt]⟩
 ·cases hq
theorem UG {T:TypeId}{y:TY}(hT:AK P T=some y){x r:AV}{v:Value}(hr:Rep w z th x v){k:IntKind}{i:Int}(hq:ixV P y i x=some r):
  ∃u,Rep w z th r u/\ ∀w',(Instr.index T v (.int k i)).run P w'= .ok u w':=by
 unfold ixV at hq;split at hq
 ·rename_i s hk
  obtain rfl:=hr.r_inv;split at hq
  ·rename_i h0
   simp only[aF] at hq;obtain⟨b,hb,rfl⟩:=hq;refine⟨_,.r th _,fun w'=>?_⟩;simp[Instr.index,asIntOf,AD (FJ hT hk),h0,hb]
  ·cases hq
 ·rename_i m e c hk
  split at hq
  ·rename_i ye he
   split at hq
   ·rename_i hc
    obtain⟨ys,rfl,hc'⟩:=hr.agg_inv;unfold KI at hq;split at hq
    ·rename_i hag
     split at hq
     ·cases hq
      refine⟨_,.agg th _ ((ys.drop (i.toNat * ye.size)).take ye.size) ?_ ?_,fun w'=>?_⟩
      ·exact((hc'.drop _).take _).1
      ·exact((hc'.drop _).take _).2
      ·simp[Instr.index,asIntOf,AD (Ib hT hk),hc,part,HQ he,hag,As he]
     ·cases hq
    ·rename_i hag
     obtain⟨u,hu,hr'⟩:=hc'.get hq;refine⟨u,hr',fun w'=>?_⟩;simp[Instr.index,asIntOf,AD (Ib hT hk),hc,part,HQ he,hag,As he,hu]
   ·cases hq
  ·cases hq
 ·cases hq
theorem Hx {α β:Type}(f:α->Sem β)(g:α->β)(w:World): ∀l:List α,(∀x ∈ l,(f x).run P w= .ok (g x) w)->(l.mapM f).run P w= .ok (l.map g) w
 | [],_=>by simp
 |x::l,h=>by
  rw[List.mapM_cons,aQ,h x (by simp),aL,aQ,Hx f g w l (fun y hy=>h y (by simp[hy]))]
  rfl
theorem OR {α β:Type}(f:α->Sem β)(g:α->β)(w:World)(l:Array α)(h: ∀x ∈ l.toList,(f x).run P w= .ok (g x) w):(l.mapM f).run P w= .ok (l.toList.map g).toArray w:=by
 obtain⟨l⟩:=l;rw[List.mapM_toArray,Sem.run_map,Hx f g w l h]
 rfl
theorem Cv {T:TypeId}{k:TK}{s b:Nat}{zs:List Value}(hT:AK P T=some ⟨k,s,b,some zs⟩): ∃v:Value,∀w',(zeroValue T).run P w'= .ok v w'/\v.cells.toList=zs:=by
 obtain⟨i,d,h1,h2,h3⟩:=BE hT;simp only[TY.mk.injEq] at h3;obtain⟨_,_,_,h3⟩:=h3;obtain⟨v,hv,hv'⟩:=aF.1 h3.symm;exact⟨v,fun w'=>⟨by simp[zeroValue,Cw h1,hv],hv'⟩⟩
theorem Reps.plain (l:List Value):Reps w z th (l.map AV.r) l:=by
 refine⟨by simp,fun i x y h1 h2=>?_⟩;simp only[List.getElem?_map,h2,Option.map_some,aM] at h1;subst h1;exact .r th _
theorem Rep.agg_mk {c:List AV}{us:Array Value}(h:Reps w z th c us.toList):Rep w z th (.agg c) (.agg us):=by
 have:=Rep.agg th c us.toList h.1 h.2;simpa using this
theorem J8 {d:TypeDesc}{v:Int}(hd: ∃kk,d= .int kk): ∀(es:List MapEntry)(l:List Int)(i:Nat),es.map (·.key)=l.map (.int .i64 ·)->
  ∃r,Instr.findNow d (.int .i64 v) es i=some r/\r.isSome=l.contains v
 | [],[],i,_=>⟨none,by simp[Instr.findNow],by simp⟩
 | [],_::_,_,h=>by simp at h
 |_::_,[],_,h=>by simp at h
 |e::es,k::l,i,h=>by
  simp only[List.map_cons,fC] at h;obtain⟨h1,h2⟩:=h;obtain⟨kk,rfl⟩:=hd;obtain⟨r,h3,h4⟩:=J8 (v:=v) ⟨kk,rfl⟩ es l (i+1) h2;simp only[Instr.findNow,h1,Instr.sameNow,if_true]
  by_cases hv:v=k
  ·subst hv;exact⟨some (i,e.val),by simp,by simp⟩
  ·have:(v==k)=false:=by simpa using hv
   rw[this];exact⟨r,by simpa using h3,by rw[h4];simp[hv]⟩
theorem GP {kT:TypeId}{kk:IntKind}(hu:P.underlying kT=some (.int kk))(b:Bool)(v:Value)(w:World):(Instr.checkKey b 10000 kT v).run P w= .ok () w:=by
 rw[show(10000:Nat)=9999+1 from rfl,Instr.checkKey];simp[AD hu]
theorem KV {d:TypeDesc}{k:Value}: ∀(es:List MapEntry)(i j:Nat)(u:Value),Instr.findNow d k es i=some (some (j,u))-> ∃e ∈ es,e.val=u
 | [],i,j,u,h=>by simp[Instr.findNow] at h
 |e::es,i,j,u,h=>by
  simp only[Instr.findNow] at h;split at h
  ·cases h;exact⟨e,by simp,rfl⟩
  ·obtain⟨e',h1,h2⟩:=KV es _ _ _ h;exact⟨e',by simp[h1],h2⟩
  ·cases h
theorem KW {kT:TypeId}{kk:IntKind}(hu:P.underlying kT=some (.int kk)){v:Int}{es:List MapEntry}{l:List Int}(h:es.map (·.key)=l.map (.int .i64 ·)): ∃r,(∀w,(Instr.findKey kT (.int .i64 v) es).run P w= .ok r w)/\r.isSome=l.contains v/\Instr.findNow (.int kk) (.int .i64 v) es 0=some r:=by
 obtain⟨r,h1,h2⟩:=J8 (v:=v) ⟨kk,rfl⟩ es l 0 h;exact⟨r,fun w=>by simp[Instr.findKey,AD hu,h1],h2,h1⟩
def lkV (v0:Value):Option (Nat×Value)->Value
 |some (_,u)=>u
 |none=>v0
theorem Rd (h:Sim E N st th z a w){T:TypeId}{x i:Operand}{r:AV}(hq:Q3 P st (AK P T) (ev st E.G x) (ev st E.G i)=some r): ∃v,Rep w z th r v/\ ∀w',SameK st th z w w'->(Instr.lookup T (a.eval x) (a.eval i) true).run P w'= .ok v w':=by
 unfold Q3 at hq;split at hq
 ·rename_i k e s b zz n kk v hT hx hi
  unfold Vd at hq;split at hq
  ·rename_i s1 b1 z1 k2 s2 b2 l hk he hl
   split at hq
   ·cases hq
    obtain⟨L,hL,hv⟩:=(AL h hx).q_inv;have hi':=(AL h hi).r_inv;obtain⟨L',h1,⟨hp,es,ck,h2,h3,hvals⟩,h4⟩:=h.mem.nds _ _ hl;rw[hL] at h1;cases h1;obtain⟨v0,hz⟩:=Cv he
    have hv0:v0= .agg #[]:=by
     have:=(hz w).2
     cases v0<;>simp[Value.cells] at this
     subst this;rfl
    obtain⟨r,g1,g2,g3⟩:=KW (P:=P) (ER hk rfl) (v:=v) h3
    have hval:lkV v0 r= .agg #[]:=by
     cases r with
     |none=>exact hv0
     |some p=>
      obtain⟨j,u⟩:=p;obtain⟨e',h5,h6⟩:=KV _ _ _ _ g3;exact h6.symm.trans (hvals e' h5)
    refine⟨.tuple #[lkV v0 r,.bool r.isSome],?_,fun w' hs=>?_⟩
    ·rw[<-g2,hval]
     have:=Rep.tup (w:=w) (z:=z) th [.agg [],.r (.bool r.isSome)] [.agg #[],.bool r.isSome] rfl (fun i x y hx hy=>by
      rcases i with _ |_ |i
      ·simp at hx hy;subst hx hy;exact .agg _ [] [] rfl (fun i x y h=>by simp at h)
      ·simp at hx hy;subst hx hy;exact .r _ _
      ·simp at hx)
     exact this
    ·have hb:=hs L.b (.inr ⟨n,_,L,hl,hL,hp,rfl⟩)
     rw[h2] at hb;rw[hv,hi'];simp only[Instr.lookup,aQ,AD (OJ hT rfl),aL,Ie hb,bT,GP (ER hk rfl),g1]
     cases r with
     |none=>simp[(hz w').1,lkV]
     |some p=>obtain⟨_,u⟩:=p;simp[lkV]
   ·cases hq
  ·cases hq
 ·cases hq
theorem U8 (h:Sim E N st th z a w){args:Array Operand}{r:AV}(hq:Vb (FV st E.G args.toList)=some r): ∃v,Rep w z th r v/\ ∀w' ats ty,(Builtin.max_ ats ty (args.map a.eval)).run P w'= .ok v w':=by
 unfold Vb at hq;split at hq
 ·rename_i l he
  unfold Z2 at hq;split at hq
  ·rename_i k x k' y;cases hq
   obtain⟨v1,r1,hargs,hr1,hrest⟩:=(Bo h he).head;obtain⟨v2,r2,rfl,hr2,hrest2⟩:=hrest.head;obtain rfl:=hrest2.of_nil;obtain rfl:=hr1.r_inv;obtain rfl:=hr2.r_inv;refine⟨_,.r th _,fun w' ats ty=>?_⟩;simp only[Builtin.max_,Array.toList_map,hargs,List.foldlM_cons,List.foldlM_nil,Builtin.max2];simp
  ·cases hq
 ·cases hq
theorem Eu (h:Sim E N st th z a w)(o:Oper){x:AV}(hq:qv P E.G st o.op=some x): ∃v,Rep w z th x v/\ ∀w',SameK st th z w w'->(execOp a.eval o).run P w'= .ok (.value v) w':=by
 obtain⟨dst,op,ty,pos,aft,gd⟩:=o;simp only at hq;unfold qv at hq;split at hq
 ·exact⟨_,AL h hq,fun w' _=>by simp[execOp]⟩
 ·exact⟨_,AL h hq,fun w' _=>by simp[execOp]⟩
 ·split at hq
  ·rename_i c a1 b1 h1 h2 h3;cases hq
   have r1:=(AL h h1).r_inv;have r2:=AL h h2;have r3:=AL h h3;refine⟨if c then a.eval _ else a.eval _,?_,fun w' _=>by simp only[execOp,r1,asBool];rfl⟩
   have hbo: ∀ {x:AV}{b:Bool},Mt x=some b->x= .r (.bool b):=by
    intro x b hx;unfold Mt at hx;split at hx
    ·cases hx;rfl
    ·cases hx
   unfold OV;split
   ·rename_i x y hx hy
    rw[hbo hx] at r2;rw[hbo hy] at r3;obtain e2:=r2.r_inv;obtain e3:=r3.r_inv;cases c
    ·simp only[cond_false];rw[e3];exact .r th _
    ·simp only[cond_true];rw[e2];exact .r th _
   ·cases c
    ·simpa using r3
    ·simpa using r2
  ·cases hq
 ·split at hq
  ·rename_i y x1 hT he
   split at hq
   ·rename_i c off hc
    obtain⟨b,o,hv,hlt,hcell⟩:=I7 h (AL h he) hc;obtain⟨v,hr,hrun⟩:=KH (P:=P) hT hq (fun _=> .inr trivial) hcell;refine⟨v,hr,fun w' ew=>?_⟩;simp only[execOp,hv,Instr.loadAt,Instr.sureAddr,aQ,bT,aL];rw[hrun w' (fun o=>QN ew hlt o)]
    rfl
   ·cases hq
  ·cases hq
 ·split at hq
  ·rename_i t c off he;cases hq
   have hr:=AL h he;obtain⟨b,o,hv,_⟩:=hr.re_inv;rw[hv] at hr;exact⟨_,hr,fun w' _=>by simp only[execOp,hv];rfl⟩
  ·rename_i n i off he;cases hq
   have hr:=AL h he;obtain⟨L,_,hv⟩:=hr.p_inv;rw[hv] at hr;exact⟨_,hr,fun w' _=>by simp only[execOp,hv];rfl⟩
  ·rename_i f c he;cases hq
   have hr:=AL h he;generalize hv:a.eval _=v at hr
   cases hr with
   |fn _ _ _ ys hl hx=>exact⟨_,.fn th f c ys hl hx,fun w' _=>by simp only[execOp,hv];rfl⟩
  ·cases hq
 ·split at hq
  ·rename_i hY
   split at hq
   ·rename_i y v hT h1
    obtain rfl:=Rh hY;obtain⟨u,rfl,hrun⟩:=Rk hT hq;have hx:=(AL h h1).r_inv;refine⟨u,.r th u,fun w' _=>?_⟩;simp only[execOp];rw[hx,show a.eval (.const .nilIface)=Value.nilIface from rfl,aQ,hrun];rfl
   ·cases hq
  ·split at hq
   ·rename_i y x1 x2 hT h1 h2
    obtain⟨v,hr,hrun⟩:=UV hT (AL h h1) (AL h h2) hq _ _;refine⟨v,hr,fun w' _=>?_⟩;have:=hrun w';simp only[execOp];rw[aQ,this];rfl
   ·rename_i y x1 x2 hT h1 h2
    obtain⟨v,hr,hrun⟩:=SI hT (AL h h1) (AL h h2) hq _ _;refine⟨v,hr,fun w' _=>?_⟩;have:=hrun w';simp only[execOp];rw[aQ,this];rfl
   ·cases hq
 ·split at hq
  ·rename_i x1 h1
   obtain⟨v,hr,hrun⟩:=TL (P:=P) (AL h h1) hq;refine⟨v,hr,fun w' _=>?_⟩;simp only[execOp];rw[aQ,hrun w'];rfl
  ·cases hq
 ·split at hq
  ·rename_i s d x1 hS hD h1
   obtain⟨v,hr,hrun⟩:=Ua h hS hD (AL h h1) hq;refine⟨v,hr,fun w' ew=>?_⟩;simp only[execOp];rw[aQ,hrun w' ew];rfl
  ·cases hq
 ·split at hq
  ·cases hq
  ·rename_i y x1 hne hT h1;cases hq
   obtain⟨d,hd,hdn⟩:=PJ hT (fun hk=>by obtain⟨k,s,b,zz⟩:=y;simp only at hk;subst hk;exact hne _ _ _ rfl);refine⟨_,.ifc th _ _ _ (AL h h1),fun w' _=>?_⟩;simp only[execOp,Instr.makeInterface,aQ,AD hd,aL]
   rfl
  ·cases hq
 ·split at hq
  ·rename_i c hf he;cases hq
   obtain⟨hl,hx⟩:=Bo h he;refine⟨_,.fn th _ c _ hl hx,fun w' _=>?_⟩;have hfirst:=Array.toList_eq_nil_iff.1 hf;subst hfirst;simp[execOp,Instr.makeFunc];apply gN;simp
  ·cases hq
 ·split at hq
  ·rename_i y x1 lo hi hT h1 hl hh
   obtain⟨v,hr,hrun⟩:=TW h hT (AL h h1) hl hh hq;refine⟨v,hr,fun w' ew=>?_⟩;simp only[execOp,Option.map_none];rw[aQ,hrun w' ew];rfl
  ·cases hq
 ·split at hq
  ·rename_i y x1 lo hi m hT h1 hl hh hm
   obtain⟨v,hr,hrun⟩:=RA h hT (AL h h1) hl hh hm hq;refine⟨v,hr,fun w' ew=>?_⟩;simp only[execOp,Option.map_some];rw[aQ,hrun w' ew];rfl
  ·cases hq
 ·split at hq
  ·rename_i fs sz by' zz x1 hT h1
   split at hq
   ·rename_i off fsz hfs
    split at hq
    ·cases hq
    ·rename_i hnz
     obtain⟨b,o,hv,hr⟩:=Il (AL h h1) hq;obtain⟨gs,hu,hg,hsome⟩:=LO hT rfl;refine⟨_,hr,fun w' _=>?_⟩;rw[hg] at hfs;simp only[List.getElem?_map,aF,cH] at hfs;obtain⟨f,hf,rfl,hsz⟩:=hfs;rw[bW] at hf;simp only[execOp,Instr.fieldAt,aQ,AD hu,aL,hf,hv,Instr.sureAddr,bT,fieldPlace]
     have:(sizeOf f.type).run P w'= .ok fsz w':=by
      unfold LY at hsz;split at hsz
      ·rename_i i hi;subst hsz;simp[sizeOf,Cw hi]
      ·omega
     simp[this,hnz,Cc]
   ·cases hq
  ·cases hq
 ·split at hq
  ·rename_i y x1 k i hT h1 h2
   have hi:=(AL h h2).r_inv;obtain⟨v,hr,hrun⟩:=UH (k:=k) h hT (AL h h1) hq;refine⟨v,hr,fun w' _=>?_⟩;simp only[execOp,hi];rw[aQ,hrun w'];rfl
  ·cases hq
 ·split at hq
  ·rename_i y x1 k i hT h1 h2
   have hi:=(AL h h2).r_inv;obtain⟨v,hr,hrun⟩:=UG (k:=k) hT (AL h h1) hq;refine⟨v,hr,fun w' _=>?_⟩;simp only[execOp,hi];rw[aQ,hrun w'];rfl
  ·cases hq
 ·obtain⟨v,hr,hrun⟩:=Rd h hq
  exact⟨v,hr,fun w' hs=>by simp only[execOp];rw[aQ,hrun w' hs];rfl⟩
 ·split at hq
  ·rename_i c h1
   generalize hv:a.eval _=u at *;obtain⟨ys,hu,hc⟩:=(show Rep w z th (.tup c) (a.eval _) from AL h h1).tup_inv;obtain⟨v,hy,hr⟩:=hc.get hq;refine⟨v,hr,fun w' _=>?_⟩;simp[execOp,hu,Instr.extract,hy]
  ·cases hq
 ·split at hq
  ·rename_i parts _ _ fs sz by' zs l hT he
   simp only[aF] at hq;obtain⟨c,hf,rfl⟩:=hq;obtain⟨gs,hu,hg,hsome⟩:=LO hT rfl;obtain⟨v0,hz⟩:=Cv hT;obtain⟨us,hus,hru⟩:=IP h _ _ _ _ v0.cells _ he (by rw[(hz w).2];exact Reps.plain zs) hf;refine⟨.agg us,Rep.agg_mk hru,fun w' _=>?_⟩
   have hpl:(gs.mapM fun f=>do pure (f.offset,<-sizeOf f.type):Sem (Array (Nat×Nat))).run P w'= .ok fs.toArray w':=by
    rw[hg];refine OR _ (fun f=>(f.offset,LY P f.type)) w' gs (fun f hf=>?_);obtain⟨i,hi⟩:=fT.1 (hsome f hf);simp[sizeOf,Cw hi,LY,hi]
   simp only[execOp,Instr.build,aQ,(hz w').1,aL,AD hu,hpl]
   have:Instr.fill (fun x=>fs.toArray[x]?) v0.cells (Array.map (fun x=>(x.1,a.eval x.2)) parts).toList=some us:=by
    rw[<-hus];simp
   simp only[this]
   rfl
  ·rename_i parts _ _ m e sz by' zs l hT he
   split at hq
   ·rename_i ye hye
    simp only[aF] at hq;obtain⟨c,hf,rfl⟩:=hq;obtain⟨v0,hz⟩:=Cv hT;obtain⟨us,hus,hru⟩:=IP h _ _ _ _ v0.cells _ he (by rw[(hz w).2];exact Reps.plain zs) hf;refine⟨.agg us,Rep.agg_mk hru,fun w' _=>?_⟩;simp only[execOp,Instr.build,aQ,(hz w').1,aL,AD (Ib hT rfl),As hye]
    have:Instr.fill (fun i=>some (i * ye.size,ye.size)) v0.cells (Array.map (fun x=>(x.1,a.eval x.2)) parts).toList=some us:=by
     rw[<-hus];simp
    simp only[this]
    rfl
   ·cases hq
  ·cases hq
 ·rename_i args argTypes
  split at hq
  ·rename_i x1 T he hT0
   split at hq
   ·rename_i y hT
    have hr:=Bo h he;obtain⟨v,ys,hys,hr1,hr2⟩:=hr.head;have:=hr2.of_nil;subst this;obtain⟨u,hu,hrun⟩:=Rf h hr1 hq hT;refine⟨u,hu,fun w' hsk=>?_⟩;obtain⟨args⟩:=args;simp only at he hys;have hT1:argTypes[0]?=some T:=hT0
    have:(Builtin.len_ argTypes ty #[v]).run P w'= .ok u w':=by
     rw[<-hrun w' ty hsk];simp[Builtin.len_,hT1]
    simp only[execOp,resolve,invoke,builtin,aQ,bT,aL]
    have he2:(Array.map a.eval ⟨args⟩)= #[v]:=by
     simp[hys]
    rw[he2,this]
    rfl
   ·cases hq
  ·cases hq
 ·rename_i args argTypes
  obtain⟨v,hr,hrun⟩:=U8 (P:=P) h hq;refine⟨v,hr,fun w' _=>?_⟩;simp only[execOp,resolve,invoke,builtin,aQ,bT,aL,hrun]
 ·rename_i args argTypes
  split at hq
  ·rename_i x1 T he hT0
   split at hq
   ·rename_i y hT
    have hr:=Bo h he;obtain⟨v,ys,hys,hr1,hr2⟩:=hr.head;have:=hr2.of_nil;subst this;obtain⟨u,hu,hrun⟩:=SE hr1 hq hT;refine⟨u,hu,fun w' _=>?_⟩;obtain⟨args⟩:=args;simp only at he hys;have hT1:argTypes[0]?=some T:=hT0
    have:(Builtin.cap_ argTypes ty #[v]).run P w'= .ok u w':=by
     rw[<-hrun w' ty];simp[Builtin.cap_,hT1]
    simp only[execOp,resolve,invoke,builtin,aQ,bT,aL]
    have he2:(Array.map a.eval ⟨args⟩)= #[v]:=by
     simp[hys]
    rw[he2,this]
    rfl
   ·cases hq
  ·cases hq
 ·cases hq
end
def rm {α:Type}:List (Nat×α)->Nat->List (Nat×α)
 | [],_=>[]
 |(i,x)::r,j=>if i=j then rm r j else (i,x)::rm r j
theorem Gw {α:Type}(o:List (Nat×α))(i j:Nat):lk (rm o i) j=if i=j then none else lk o j:=by
 induction o with
 |nil=>simp[rm,lk]
 |cons p r ih=>
  obtain⟨n,x⟩:=p
  by_cases h:n=i
  ·subst h;simp only[rm,if_true,ih,lk];split<;>rfl
  ·simp only[rm,if_neg h,lk,ih]
   by_cases h2:n=j
   ·subst h2;simp[cL h]
   ·simp[h2]
section
variable {P:Program} {E:Env} {N:Nat} {st:AS} {th:List NLoc} {z:AO} {a:Act} {w:World} {o:List (Nat×Nd)} {n:Nat}
theorem Mem.sub (h:Mem E o n th z w){o':List (Nat×Nd)}(hs: ∀i x,lk o' i=some x->lk o i=some x):Mem E o' n th z w:=
 ⟨h.len,fun i nd hi=>h.nds i nd (hs i nd hi),fun i j x y L M hi hj=>h.inj i j x y L M (hs _ _ hi) (hs _ _ hj),h.zlt,h.grow,h.frame,h.zin,h.zout,h.zb,h.globs,h.pre,h.sys,let ⟨U,hU⟩:=h.uls;⟨U,fun i T k els op L hi hL=>hU.at_ i T k els op L (hs _ _ hi) hL,hU.lt,hU.nz,hU.ow,hU.inj,fun i nd L j hi=>hU.kn i nd L j (hs _ _ hi)⟩⟩
theorem Sim.sub (h:Sim E N st th z a w){st':AS}(hn:st'.n=st.n)(ho: ∀i x,lk st'.o i=some x->lk st.o i=some x)(hm: ∀i x,lk st'.m i=some x->lk st.m i=some x):Sim E N st' th z a w:=
 ⟨by rw[hn];exact h.mem.sub ho,h.size,h.dfs,fun i x hi=>h.slots i x (hm i x hi)⟩
theorem Mem.freeze (h:Mem E o n th z w){i:Nat}{T:TypeId}{k:Nat}{els:List (List AV)}{L:NLoc}(hi:lk o i=some (.lst T k els))(hL:th[i]?=some L):Mem E (rm o i) n th (fun t b=>z t b\/(t=true/\L.ph=false/\b=L.b)) w:=by
 have le:Le w z w (fun t b=>z t b\/(t=true/\L.ph=false/\b=L.b)):=⟨fun _ _ h=> .inl h,fun _ _ _=>rfl⟩;obtain⟨L',h1,_,h3⟩:=h.nds i _ hi;rw[hL] at h1;cases h1
 have hs: ∀j x,lk (rm o i) j=some x->i≠j/\lk o j=some x:=by
  intro j x hj;rw[Gw] at hj;split at hj
  ·cases hj
  ·exact⟨by assumption,hj⟩
 refine⟨h.len,fun j nd hj=>?_,fun p q x y M M' hp hq=>h.inj p q x y M M' (hs _ _ hp).2 (hs _ _ hq).2,?_,h.grow,h.frame,fun t b hb=> .inl (h.zin t b hb),?_,?_,fun g cs hg=>⟨.inl (h.globs g cs hg).1,(h.globs g cs hg).2⟩,h.pre,h.sys,?_⟩
 ·obtain⟨hne,hj⟩:=hs _ _ hj
  obtain⟨M,k1,k2,k3⟩:=h.nds j nd hj;refine⟨M,k1,by simpa using k2.on le (fun _=>rfl) [],fun hp=>⟨(k3 hp).1,fun t hz=>?_,(k3 hp).2.2⟩⟩
  rcases hz with hz |⟨_,hp2,hz⟩
  ·exact(k3 hp).2.1 t hz
  ·exact hne (h.inj i j _ _ L M hi hj hL k1 hp2 hp hz.symm)
 ·rintro t b (hb |⟨_,hp,rfl⟩)
  ·exact h.zlt t b hb
  ·exact(h3 hp).1
 ·rintro b (hb |⟨_,hp,rfl⟩)
  ·exact h.zout b hb
  ·rcases(h3 hp).2.2 with h5 |h5
   ·exact .inr (.inl h5)
   ·exact .inr (.inr h5)
 ·rintro b (hb |⟨hf,_⟩)
  ·exact h.zb b hb
  ·cases hf
 ·obtain⟨U,hU⟩:=h.uls
  refine⟨U,fun j T' k' els' op M hj hM=>?_,hU.lt,fun j b hb t hz=>?_,hU.ow,hU.inj,fun j nd M q hj=>hU.kn j nd M q (hs _ _ hj).2⟩
  ·have:=(hU.at_ j T' k' els' op M (hs _ _ hj).2 hM).on le (fun _ _=>rfl) (.inr rfl) []
   simpa using this
  ·rcases hz with hz |⟨_,hp,rfl⟩
   ·exact hU.nz j b hb t hz
   ·exact hU.kn i _ L j hi hL hp hb
theorem Sim.freeze (h:Sim E N st th z a w){i:Nat}{T:TypeId}{k:Nat}{els:List (List AV)}{L:NLoc}(hi:lk st.o i=some (.lst T k els))(hL:th[i]?=some L):
  Sim E N {st with o:=rm st.o i} th (fun t b=>z t b\/(t=true/\L.ph=false/\b=L.b)) a w:=
 ⟨h.mem.freeze hi hL,h.size,h.dfs,fun j x hj=>let ⟨y,hy,hr⟩:=h.slots j x hj;⟨y,hy,hr.on' ⟨fun _ _ h=> .inl h,fun _ _ _=>rfl⟩⟩⟩
theorem Rep.seen {z':AO}{t:Bool}{L:NLoc}{T:TypeId}{k:Nat}{els:List (List AV)}{i lo len:Nat}{v:Value}(hr:Rep w z th (.s i lo len) v)(hL:th[i]?=some L)(hn:NdAt w z th L (.lst T k els))(hle:lo+len≤els.length)
  (hz:L.ph=false->z' t L.b) (hs: ∀t b,z t b->z' t b) (th':List NLoc):Rep w z' th' (.ro t k ((els.drop lo).take len)) v:=by
 obtain⟨L',hL',hcase⟩:=hr.s_inv;rw[hL] at hL';cases hL'
 have hlen:((els.drop lo).take len).length=len:=by simp;omega
 rcases hcase with ⟨_,rfl,rfl⟩ |⟨hp,c,o,rfl,hl,hcap,ho⟩
 ·simp only[List.take_zero];exact .nil _ _ _ _ _
 rcases hn with ⟨hp',_⟩ |⟨_,cells,fr,h2,h3,h4,h5,h6,h7⟩
 ·rw[hp] at hp';cases hp'
 by_cases hz0:len=0
 ·subst hz0;simp only[List.take_zero];exact .nil _ _ _ _ _
 ·have ho:=ho (by omega)
  subst ho
  have key:Rep w z' th' (.ro t k ((els.drop lo).take len)) (.slice (some ⟨L.b,L.o+lo * L.k,none⟩) ((els.drop lo).take len).length c):=by
   refine Rep.ro_mk (hz hp) (by rw[hlen];exact hl) (fun i e he=>?_);rw[dV] at he;split at he
   ·rw[bI] at he
    obtain⟨k1,k2⟩:=h7 _ _ he;refine⟨k1.trans h4,fun j x hj=>?_⟩;obtain⟨y,hy,hr,h1⟩:=k2 j x hj;refine⟨y,?_,hr.on' ⟨hs,fun _ _ _=>rfl⟩,h1⟩;rw[Bj h2,<-h4,show L.o+lo * L.k+i * L.k+j=L.o+(lo+i) * L.k+j by rw[bJ];omega];exact hy
   ·cases he
  rw[hlen] at key;exact key
end
mutual
def NI (st:AS):AV->Option (AV×AS)
 | .s n lo len=>match lk st.o n with
   |some (.lst _ k els)=>if lo+len≤els.length then some (.ro true k ((els.drop lo).take len),{st with o:=rm st.o n}) else none
   |_=>none
 | .r v=>some (.r v,st)
 | .ro t k els=>some (.ro t k els,st)
 | .re t c off=>some (.re t c off,st)
 | .agg c=>match MK st c with
   |some (c',st')=>some (.agg c',st')
   |none=>none
 | .tup c=>match MK st c with
   |some (c',st')=>some (.tup c',st')
   |none=>none
 |_=>none
def MK (st:AS):List AV->Option (List AV×AS)
 | []=>some ([],st)
 |x::r=>match NI st x with
  |none=>none
  |some (x',st1)=>match MK st1 r with
   |none=>none
   |some (r',st2)=>some (x'::r',st2)
end
section
variable {P:Program} {E:Env} {N:Nat} {th:List NLoc} {a:Act} {w:World}
mutual
theorem Jp: ∀(x:AV){st st':AS}{z:AO}{v:Value}{x':AV},Sim E N st th z a w->Rep w z th x v->NI st x=some (x',st')->
  ∃z',(∀t b,z t b->z' t b)/\Sim E N st' th z' a w/\Rep w z' [] x' v/\st'.m=st.m/\st'.n=st.n
 | .s i lo len,st,st',z,v,x',h,hr,hq=>by
   simp only[NI] at hq;split at hq
   ·rename_i T k els hi
    split at hq
    ·rename_i hle;cases hq
     obtain⟨L,h1,h2,h3⟩:=h.mem.nds i _ hi;exact⟨_,fun _ _ h=> .inl h,h.freeze hi h1,hr.seen h1 h2 hle (fun hp=> .inr ⟨rfl,hp,rfl⟩) (fun _ _ h=> .inl h) [],rfl,rfl⟩
    ·cases hq
   ·cases hq
 | .r u,st,st',z,v,x',h,hr,hq=>by
   simp only[NI] at hq;cases hq;obtain rfl:=hr.r_inv;exact⟨z,fun _ _ h=>h,h,.r _ _,rfl,rfl⟩
 | .ro t k els,st,st',z,v,x',h,hr,hq=>by
   simp only[NI] at hq;cases hq;obtain⟨ad,c,rfl,hc,hn |⟨b,o,rfl,hz,hcell⟩⟩:=hr.ro_inv
   ·subst hn;exact⟨z,fun _ _ h=>h,h,.nil _ _ _ _ _,rfl,rfl⟩
   ·exact⟨z,fun _ _ h=>h,h,Rep.ro_mk hz hc hcell,rfl,rfl⟩
 | .re t c off,st,st',z,v,x',h,hr,hq=>by
   simp only[NI] at hq;cases hq;obtain⟨b,o,rfl,hz,hcell⟩:=hr.re_inv;exact⟨z,fun _ _ h=>h,h,Rep.re_mk hz hcell,rfl,rfl⟩
 | .agg c,st,st',z,v,x',h,hr,hq=>by
   simp only[NI] at hq;split at hq
   ·rename_i c' st1 hc;cases hq
    obtain⟨ys,rfl,hc'⟩:=hr.agg_inv;obtain⟨z',hz,hs,hr',hm,hn⟩:=GE c h hc' hc;exact⟨z',hz,hs,.agg _ _ _ hr'.1 hr'.2,hm,hn⟩
   ·cases hq
 | .p _ _ _,_,_,_,_,_,_,_,hq=>by simp[NI] at hq
 | .tup c,st,st',z,v,x',h,hr,hq=>by
   simp only[NI] at hq;split at hq
   ·rename_i c' st1 hc;cases hq
    obtain⟨ys,rfl,hc'⟩:=hr.tup_inv;obtain⟨z',hz,hs,hr',hm,hn⟩:=GE c h hc' hc;exact⟨z',hz,hs,.tup _ _ _ hr'.1 hr'.2,hm,hn⟩
   ·cases hq
 | .fn _ _,_,_,_,_,_,_,_,hq=>by simp[NI] at hq
 | .ifc _ _,_,_,_,_,_,_,_,hq=>by simp[NI] at hq
 | .q _,_,_,_,_,_,_,_,hq=>by simp[NI] at hq
 | .u _ _ _,_,_,_,_,_,_,_,hq=>by simp[NI] at hq
 | .any,_,_,_,_,_,_,_,hq=>by simp[NI] at hq
theorem GE: ∀(c:List AV){st st':AS}{z:AO}{ys:List Value}{c':List AV},Sim E N st th z a w->Reps w z th c ys->MK st c=some (c',st')->
  ∃z',(∀t b,z t b->z' t b)/\Sim E N st' th z' a w/\Reps w z' [] c' ys/\st'.m=st.m/\st'.n=st.n
 | [],st,st',z,ys,c',h,hr,hq=>by
   simp only[MK] at hq;cases hq;obtain rfl:=hr.of_nil;exact⟨z,fun _ _ h=>h,h,.nil,rfl,rfl⟩
 |x::r,st,st',z,ys,c',h,hr,hq=>by
  simp only[MK] at hq;split at hq
  ·cases hq
  ·rename_i x1 st1 hx
   split at hq
   ·cases hq
   ·rename_i r1 st2 hr1;cases hq
    obtain⟨y,ys',rfl,hy,hys⟩:=hr.head;obtain⟨z1,hz1,hs1,hr1',hm1,hn1⟩:=Jp x h hy hx;obtain⟨z2,hz2,hs2,hr2',hm2,hn2⟩:=GE r hs1 (by simpa using hys.on ⟨hz1,fun _ _ _=>rfl⟩ []) hr1;exact⟨z2,fun t b hb=>hz2 t b (hz1 t b hb),hs2,.cons (hr1'.on' ⟨hz2,fun _ _ _=>rfl⟩) hr2',hm2.trans hm1,hn2.trans hn1⟩
end
end
section
variable {P:Program} {E:Env} {N:Nat} {st:AS} {th:List NLoc} {z:AO} {a:Act} {w:World} {o:List (Nat×Nd)} {n:Nat}
theorem Fq (w:World)(x:Obj):Ext w (w.alloc x):=⟨by simp,fun b hb=>by show(w.heap.push x)[b]?=_;simp[Array.getElem?_push,show b≠w.heap.size by omega],⟨rfl,rfl,rfl⟩⟩
theorem Gq (w:World)(x:Obj):(w.alloc x).heap[w.heap.size]?=some x:=by show(w.heap.push x)[w.heap.size]?=_;simp
theorem Sim.add (h:Sim E N st th z a w){w':World}(e:Ext w w')(L:NLoc)(nd:Nd)(hb:w.heap.size≤L.b)(hb':L.b<w'.heap.size)(hn:NdAt w' z (th++[L]) L nd)(hu: ∀T k els op,nd= .ul T k els op->UlAt w' z (th++[L]) (fun _=>False) L els op:=by intro _ _ _ _ h;cases h):
  Sim E N {st with o:=(st.n,nd)::st.o,n:=st.n+1} (th++[L]) z a w':=
 ⟨h.mem.add e L nd hb hb' hn hu,h.size,h.dfs,fun i x hi=>let ⟨y,hy,hr⟩:=h.slots i x hi;⟨y,hy,hr.on (e.le (fun _ _ h=>h) h.mem.zlt) [L]⟩⟩
theorem Sim.get_new (h:Sim E N st th z a w)(L:NLoc):(th++[L])[st.n]?=some L:=by rw[<-h.mem.len];simp
theorem Sim.box (h:Sim E N st th z a w)(T:TypeId){x:AV}{v:Value}(hr:Rep w z th x v)(ho:x.okPart=true):
  ∃L,Sim E N {st with o:=(st.n,.box T x.cells)::st.o,n:=st.n+1} (th++[L]) z a (w.alloc (.cells v.cells T))/\Rep (w.alloc (.cells v.cells T)) z (th++[L]) (.p st.n 0 0) (.pointer (some ⟨w.heap.size,0,none⟩))/\Ext w (w.alloc (.cells v.cells T)):=by
 have e:=Fq w (.cells v.cells T);refine⟨⟨w.heap.size,0,0,1,false⟩,h.add e ⟨w.heap.size,0,0,1,false⟩ _ (Nat.le_refl _) (by simp) ?_,?_,e⟩
 ·exact⟨rfl,v.cells,(0,0),Gq _ _,fun i _=>by simp,rfl,(CS hr ho).on (e.le (fun _ _ h=>h) h.mem.zlt) _⟩
 ·exact .p _ _ 0 0 _ (h.get_new _)
theorem Mem.write (h:Mem E o n th z w){i:Nat}{nd nd':Nd}{L:NLoc}(hi:lk o i=some nd)(hL:th[i]?=some L)(hph:L.ph=false){w':World}(hy:Sys w w')(hs:w'.heap.size=w.heap.size)(hsame: ∀b,b≠L.b->w'.heap[b]?=w.heap[b]?)(hn:NdAt w' z th L nd')(hu: ∀T k els op,nd'= .ul T k els op-> ∀U,UlOK U E o th z w->UlAt w' z th (U i) L els op:=by intro _ _ _ _ h;cases h):
  Mem E ((i,nd')::o) n th z w':=by
 obtain⟨L',h1,h2,h3⟩:=h.nds i _ hi;rw[hL] at h1;cases h1;obtain⟨h3,h4,h5⟩:=h3 hph;have le:Le w z w' z:=⟨fun _ _ h=>h,fun t b hb=>hsame b (fun e=>by subst e;exact h4 t hb)⟩
 have hlk: ∀j x,lk ((i,nd')::o) j=some x->(i=j/\x=nd')\/(i≠j/\lk o j=some x):=by
  intro j x hj;simp only[lk] at hj;split at hj
  ·rename_i e;cases hj;exact .inl ⟨e,rfl⟩
  ·rename_i e;exact .inr ⟨e,hj⟩
 have hex: ∀j x,lk ((i,nd')::o) j=some x-> ∃y,lk o j=some y:=by
  intro j x hj
  rcases hlk j x hj with ⟨rfl,_⟩ |⟨_,hj⟩
  ·exact⟨_,hi⟩
  ·exact⟨_,hj⟩
 refine⟨h.len,fun j x hj=>?_,fun p q x y M M' hp hq hM hM' e1 e2 hb=>?_,fun t b hb=>by rw[hs];exact h.zlt t b hb,by rw[hs];exact h.grow,fun b hb ho=>?_,h.zin,h.zout,h.zb,fun g cs hg=>?_,h.pre,h.sys.trans hy,?_⟩
 ·rcases hlk j x hj with ⟨rfl,rfl⟩ |⟨hne,hj⟩
  ·exact⟨L,hL,hn,fun _=>⟨by rw[hs];exact h3,h4,h5⟩⟩
  ·obtain⟨M,k1,k2,k3⟩:=h.nds j x hj
   have hb:M.ph=false->M.b≠L.b:=fun hp e=>hne (h.inj i j _ _ L M hi hj hL k1 hph hp e.symm);exact⟨M,k1,by simpa using k2.on le (fun hp=>hsame _ (hb hp)) [],fun hp=>⟨by rw[hs];exact(k3 hp).1,(k3 hp).2⟩⟩
 ·obtain⟨x',hx'⟩:=hex p x hp
  obtain⟨y',hy'⟩:=hex q y hq;exact h.inj p q x' y' M M' hx' hy' hM hM' e1 e2 hb
 ·have:b≠L.b:=fun e=>by
   subst e
   rcases h5 with h5 |h5
   ·exact ho h5
   ·omega
  exact(hsame b this).trans (h.frame b hb ho)
 ·obtain⟨k1,k2⟩:=h.globs g cs hg
  exact⟨k1,fun j v hv=>(BO (le.same _ _ k1) _).trans (k2 j v hv)⟩
 ·obtain⟨U,hU⟩:=h.uls
  have hUL: ∀j b,U j b->b≠L.b:=fun j b hb e=>by subst e;exact hU.kn i _ L j hi hL hph hb
  refine⟨U,fun j T k els op M hj hM=>?_,fun j b hb=>by rw[hs];exact hU.lt j b hb,hU.nz,hU.ow,hU.inj,fun j x M q hj hM hp=>?_⟩
  ·rcases hlk j _ hj with ⟨rfl,he⟩ |⟨hne,hj⟩
   ·rw[hL] at hM;cases hM
    exact hu T k els op he.symm U hU
   ·obtain⟨M',k1,k2,k3⟩:=h.nds j _ hj
    rw[hM] at k1;cases k1
    have hbM:els=[]\/w'.heap[M.b]?=w.heap[M.b]?:=by
     rcases k2.ul_nil with h6 |h6
     ·exact .inl h6
     ·exact .inr (hsame _ (fun e=>hne (h.inj i j _ _ L M hi hj hL hM hph h6 e.symm)))
    have:=(hU.at_ j T k els op M hj hM).on le (fun b hb=>hsame b (hUL j b hb)) hbM [];simpa using this
  ·obtain⟨y',hy'⟩:=hex j x hj
   exact hU.kn j y' M q hy' hM hp
theorem Sim.write (h:Sim E N st th z a w){i:Nat}{nd nd':Nd}{L:NLoc}(hi:lk st.o i=some nd)(hL:th[i]?=some L)(hph:L.ph=false){w':World}(hy:Sys w w')(hs:w'.heap.size=w.heap.size)(hsame: ∀b,b≠L.b->w'.heap[b]?=w.heap[b]?)(hn:NdAt w' z th L nd')(hu: ∀T k els op,nd'= .ul T k els op-> ∀U,UlOK U E st.o th z w->UlAt w' z th (U i) L els op:=by intro _ _ _ _ h;cases h):
  Sim E N {st with o:=(i,nd')::st.o} th z a w':=by
 refine⟨h.mem.write hi hL hph hy hs hsame hn hu,h.size,h.dfs,fun j x hj=>?_⟩;obtain⟨y,hy,hr⟩:=h.slots j x hj;obtain⟨L',h1,_,h3⟩:=h.mem.nds i _ hi;rw[hL] at h1;cases h1;exact⟨y,hy,hr.on' ⟨fun _ _ h=>h,fun t b hb=>hsame b (fun e=>by subst e;exact(h3 hph).2.1 t hb)⟩⟩
def E1 (cs:Array Value):Nat->List Value->Array Value
 |_,[]=>cs
 |o,v::r=>E1 (cs.setIfInBounds o v) (o+1) r
theorem C5: ∀(vs:List Value)(o:Nat)(cs:Array Value),(E1 cs o vs).size=cs.size
 | [],_,_=>rfl
 |v::r,o,cs=>by simp only[E1];rw[C5 r];simp
theorem CP: ∀(vs:List Value)(o:Nat)(cs:Array Value),o+vs.length≤cs.size-> ∀i,(E1 cs o vs)[i]?=if o≤i/\i<o+vs.length then vs[i - o]? else cs[i]?
 | [],o,cs,_,i=>by simp only[E1,List.length_nil];rw[if_neg (by omega)]
 |v::r,o,cs,h,i=>by
  simp only[List.length_cons] at h ⊢;simp only[E1];rw[CP r (o+1) _ (by simp;omega)]
  by_cases h1:i=o
  ·subst h1
   rw[if_neg (by omega),if_pos (by omega)];simp[show i<cs.size by omega]
  ·rw[dX (cL h1)]
   by_cases h2:o+1≤i/\i<o+1+r.length
   ·rw[if_pos h2,if_pos (by omega),show i - o=(i - (o+1))+1 by omega,List.getElem?_cons_succ]
   ·rw[if_neg h2,if_neg (by omega)]
theorem DB (b:Nat): ∀(vs:List Value)(o:Nat)(w:World)(cells:Array Value)(T:TypeId)(fr:Nat×Nat),w.heap[b]?=some (.cells cells T fr)->
  (w.setCells b o vs).heap.size=w.heap.size/\(∀b',b'≠b->(w.setCells b o vs).heap[b']?=w.heap[b']?)/\(w.setCells b o vs).heap[b]?=some (.cells (E1 cells o vs) T fr)
 | [],o,w,cells,T,fr,h=>⟨rfl,fun _ _=>rfl,h⟩
 |v::r,o,w,cells,T,fr,h=>by
  have hs:(w.setCell ⟨b,o,none⟩ v).heap.size=w.heap.size:=by simp[World.setCell]
  have hb:(w.setCell ⟨b,o,none⟩ v).heap[b]?=some (.cells (cells.setIfInBounds o v) T fr):=by
   simp only[World.setCell,fF,if_true,h,Option.map_some]
   rfl
  have hn: ∀b',b'≠b->(w.setCell ⟨b,o,none⟩ v).heap[b']?=w.heap[b']?:=by
   intro b' hne;simp only[World.setCell,fF,if_neg (cL hne)]
  obtain⟨i1,i2,i3⟩:=DB b r (o+1) (w.setCell ⟨b,o,none⟩ v) _ T fr hb;exact⟨i1.trans hs,fun b' hne=>(i2 b' hne).trans (hn b' hne),i3⟩
theorem Bh (b:Nat): ∀(vs:List Value)(o:Nat)(w:World),Sys w (w.setCells b o vs)
 | [],_,w=>Sys.refl w
 |v::r,o,w=>(show Sys w (w.setCell ⟨b,o,none⟩ v) from⟨rfl,rfl,rfl⟩).trans (Bh b r (o+1) _)
theorem Iq {x:AV}{v:Value}(hr:Rep w z th x v)(h:x.cell1=true):v.oneCell'=true:=by
 cases hr
 case r=>cases v<;>first |rfl |(simp[AV.cell1] at h)
 all_goals first |rfl |(simp[AV.cell1] at h)
end
def Br (st:AS)(nd:Nd):AS:={st with o:=(st.n,nd)::st.o,n:=st.n+1}
def C4 (st:AS)(i:Nat)(nd:Nd):AS:={st with o:=(i,nd)::st.o}
def JF (sz:Nat):Nat->List Nat->List AV->Option (List (List AV))
 |_,[],[]=>some []
 |i,j::is,x::r=>if j=i/\x.cells.length=sz/\x.okPart=true/\x.cells.all AV.cell1=true then (JF sz (i+1) is r).map (x.cells:: ·) else none
 |_,_,_=>none
def NA (st:AS)(k:Nat)(yt:TK)(x:AV):Option (List (List AV)):=
 match yt with
 | .slice _=>D1 st k x
 | .str=>match x with
   | .r (.string s)=>if k=1 then some (s.data.toList.map AC) else none
   |_=>none
 |_=>none
def JS (P:Program)(G:List (Nat×List Value))(st:AS)(args:Array Operand)(ats:Array TypeId):Option (Prop×AV×AS):=
 match ats.toList with
 | [T,T']=>match AK P T' with
   |some ⟨.int _,_,_,_⟩=>match AK P T,FV st G args.toList with
    |some ⟨.slice e,_,_,_⟩,some [.r (.slice none 0 0),.r (.int .i64 n)]=>match AK P e with
     |some ⟨_,sz,bytes,some zs⟩=>some ((0<n/\n≤9223372036854775807/\n * bytes≤140737488355328/\0<sz/\zs.length=sz/\zs.all Value.oneCell'=true),.s st.n 0 n.toNat,Br st (.lst e sz (List.replicate n.toNat (zs.map .r))))
     |_=>none
    |_,_=>none
   |_=>none
 |_=>none
def S2 (P:Program)(G:List (Nat×List Value))(st:AS)(op:Op)(k:AV->AS->Prop):Prop:=
 match op with
 | .box T x=>match AK P T,ev st G x with
   |some _,some x=>x.okPart=true/\k (.p st.n 0 0) (Br st (.box T x.cells))
   |_,_=>False
 | .alloc T=>match AK P T with
   |some ⟨_,_,_,some zs⟩=>k (.p st.n 0 0) (Br st (.box T (zs.map .r)))
   |_=>False
 | .buildSlice T len parts=>match AK P T,FV st G (parts.toList.map (·.2)) with
   |some ⟨.slice e,_,_,_⟩,some c=>match AK P e,MK st c with
    |some ⟨_,sz,_,some _⟩,some (c',st')=>match JF sz 0 (parts.toList.map (·.1)) c' with
     |some els=>(len=els.length/\len * sz≤16777216)/\k (.s st'.n 0 len) (Br st' (.lst e sz els))
     |none=>False
    |_,_=>False
   |_,_=>False
 | .store T x v=>match AK P T,ev st G x,ev st G v with
   |some y,some (.p n i off),some v=>match lk st.o n with
    |some (.box T' c)=>if i=0/\v.cells.length=y.size/\off+y.size≤c.length/\v.okPart=true/\v.cells.all AV.cell1=true then k (.r (.tuple #[])) (C4 st n (.box T' (splice c off v.cells))) else False
    |some (.lst T' k' els)=>match NI st v with
     |some (v',st')=>match lk st'.o n,els[i]? with
      |some (.lst _ _ _),some e=>(v'.cells.length=y.size/\off+y.size≤e.length/\v'.okPart=true/\v'.cells.all AV.cell1=true)/\k (.r (.tuple #[])) (C4 st' n (.lst T' k' (els.set i (splice e off v'.cells))))
      |_,_=>False
     |none=>False
    |_=>False
   |_,_,_=>False
 | .call {callee:= .builtin .append,args,argTypes}=>match JS P G st args argTypes with
  |some (c,v,s)=>c/\k v s
  |none=>match FV st G args.toList,argTypes.toList with
   |some [b,x],[T,T']=>match AK P T,AK P T' with
    |some ⟨.slice e,_,_,_⟩,some y'=>match AK P e with
     |some ⟨_,sz,bytes,some zs⟩=>match NA st sz y'.k x with
      |some new=>match b with
       | .r (.slice none 0 0)=>(zs.length=sz/\0<sz/\new.length * bytes≤140737488355328/\new.length≤9223372036854775807)/\k (.s st.n 0 new.length) (Br st (.lst e sz new))
       | .s n lo len=>match lk st.o n with
         |some (.lst T2 k' els)=>(T2=e/\zs.length=sz/\k'=sz/\0<sz/\lo+len≤els.length/\(len+new.length) * bytes≤140737488355328/\len+new.length≤9223372036854775807)/\
          k (.s st.n 0 (len+new.length)) (Br {st with o:=rm st.o n} (.lst e sz ((els.drop lo).take len++new)))
         |_=>False
       |_=>False
      |none=>False
     |_=>False
    |_,_=>False
   |_,_=>False
 | .call {callee:= .builtin .clear,..}=>False
 | .makeSlice T l c=>match AK P T,ev st G l,ev st G c with
   |some ⟨.slice e,_,_,_⟩,some (.r (.int _ n)),some (.r (.int _ n'))=>match AK P e with
    |some ⟨_,sz,bytes,some zs⟩=>(n=n'/\0≤n/\n≤9223372036854775807/\n * bytes≤281474976710656/\0<sz/\zs.length=sz/\zs.all Value.oneCell'=true)/\k (.s st.n 0 n.toNat) (Br st (.lst e sz (List.replicate n.toNat (zs.map .r))))
    |_=>False
   |_,_,_=>False
 |_=>False
section
variable {P:Program} {E:Env} {N:Nat} {st:AS} {th:List NLoc} {z:AO} {a:Act} {w:World}
def G_ (st:AS)(G:List (Nat×List Value)):Op->List Nat
 | .store _ x _=>match ev st G x with
   |some (.p n _ _)=>[n]
   |_=>[]
 | .mapUpdate _ x _ _=>match ev st G x with
   |some (.q n)=>[n]
   |_=>[]
 | .call {callee:= .builtin .append,args,..}=>match FV st G args.toList with
   |some (.s n _ _::_)=>[n]
   |_=>[]
 | .call {callee:= .builtin .clear,args,..}=>match FV st G args.toList with
   |some (.s n _ _::_)=>[n]
   |_=>[]
 |_=>[]
def OF (P:Program)(E:Env)(N:Nat)(o:Oper)(a:Act)(w:World)(th:List NLoc)(ts:List Nat)(m:List (Nat×AV))(k:AV->AS->Prop)(grows:Bool):Prop:=
 ∃v x st' th' z' w',((execOp a.eval o).run P w= .ok (.value v) w'\/((execOp a.eval o).run P w= .ok .skip w'/\v=undef))/\k x st'/\Sim E N st' th' z' a w'/\Rep w' z' th' x v/\st'.m=m/\(grows=true->Ext w w')/\Later th th'/\ExtT th ts w w'
theorem TF {l:List AV}{p:AV->Bool}(h:l.all p=true){i:Nat}{x:AV}(hi:l[i]?=some x):p x=true:=bS.1 h x (aB hi)
theorem Oq (h:Sim E N st th z a w){T:TypeId}{X:Operand}{d:Option Nat}{t:TypeId}{pos:String}{aft:Array Edge}{g:Option (Nat×Bool)}{k:AV->AS->Prop}(hk:S2 P E.G st (.box T X) k):OF P E N ⟨d,.box T X,t,pos,aft,g⟩ a w th [] st.m k true:=by
 simp only[S2] at hk;split at hk
 ·rename_i x hT he
  obtain⟨ho,hk⟩:=hk;obtain⟨L,h1,h2,h3⟩:=h.box T (AL h he) ho;exact⟨_,_,_,th++[L],z,_,.inl rfl,hk,h1,h2,rfl,fun _=>h3,BX _ _,h3.t⟩
 ·exact hk.elim
theorem Jz (h:Sim E N st th z a w){T:TypeId}{d:Option Nat}{t:TypeId}{pos:String}{aft:Array Edge}{g:Option (Nat×Bool)}{k:AV->AS->Prop}(hk:S2 P E.G st (.alloc T) k):OF P E N ⟨d,.alloc T,t,pos,aft,g⟩ a w th [] st.m k true:=by
 simp only[S2] at hk;split at hk
 ·rename_i kk sz by' zs hT
  obtain⟨v0,hz⟩:=Cv hT;have e:=Fq w (.cells v0.cells T);have hS:=h.add e ⟨w.heap.size,0,0,1,false⟩ (.box T (zs.map .r)) (Nat.le_refl _) (by simp) ⟨rfl,v0.cells,(0,0),Gq _ _,fun i _=>by simp,rfl,by rw[(hz w).2];exact Reps.plain zs⟩;exact⟨.pointer (some ⟨w.heap.size,0,none⟩),_,_,_,z,_,.inl (by simp only[execOp,Instr.alloc,aQ,(hz w).1,aL];rfl),hk,hS,.p _ _ 0 0 _ (h.get_new _),rfl,fun _=>e,BX _ _,e.t⟩
 ·exact hk.elim
theorem KU {α:Type}{k:Nat}: ∀ {ls:List (List α)},(∀l ∈ ls,l.length=k)-> ∀ {i j:Nat}{l:List α}{x:α},ls[i]?=some l->l[j]?=some x->ls.flatten[i * k+j]?=some x
 | [],_,i,j,l,x,h,_=>by simp at h
 |y::r,hl,0,j,l,x,h,hx=>by
  simp at h;subst h;have hj:j<y.length:=(aA.1 hx).1;rw[dP,gP,Nat.zero_add,bF hj];exact hx
 |y::r,hl,i+1,j,l,x,h,hx=>by
  have hy:=hl y (by simp);rw[dP,bQ (by rw[hy,bJ];omega),hy,show(i+1) * k+j - k=i * k+j by rw[bJ];omega];exact KU (fun l hl'=>hl l (by simp[hl'])) (by simpa using h) hx
theorem Ma {sz:Nat}: ∀(is:List Nat)(c:List AV)(i:Nat)(vs:List Value)(els:List (List AV))(ys:Array Value),JF sz i is c=some els->Reps w z [] c vs->(i+els.length) * sz≤ys.size->
  ∃us:Array Value,∃cs:List (List Value),Instr.fill (fun i=>some (i * sz,sz)) ys (is.zip vs)=some us/\us.toList=ys.toList.take (i * sz)++cs.flatten++ys.toList.drop ((i+els.length) * sz)/\cs.length=els.length/\(∀l ∈ cs,l.length=sz)/\
   (∀l ∈ els,l.length=sz)/\ ∀(j:Nat)(e:List AV)(d:List Value),els[j]?=some e->cs[j]?=some d->Reps w z [] e d/\ ∀u ∈ d,u.oneCell'=true
 | [],[],i,vs,els,ys,h,hr,hle=>by
   simp only[JF,aM] at h;subst h;exact⟨ys,[],by simp[Instr.fill],by simp,rfl,by simp,by simp,by simp⟩
 |j::is,x::r,i,vs,els,ys,h,hr,hle=>by
  simp only[JF] at h;split at h
  ·rename_i hc;obtain⟨rfl,h2,h3,h4⟩:=hc
   simp only[aF] at h;obtain⟨els',h5,rfl⟩:=h;obtain⟨v,vs',rfl,hv,hvs⟩:=hr.head;have hcells:=CS hv h3
   have hsz:v.cells.size=sz:=by
    have:=hcells.1;rw[h2] at this;simpa using this
   simp only[List.length_cons] at hle ⊢
   have e1:(j+(els'.length+1)) * sz=j * sz+sz+els'.length * sz:=by rw[bJ,bJ];omega
   have key:=GF (j * sz) v.cells.toList 0 ys (by simp[hsz];omega);simp only[Nat.add_zero,cT,hsz] at key
   obtain⟨us,cs,g1,g2,g3,g4,g5,g6⟩:=Ma is r (j+1) vs' els' (v.cells.zipIdx.foldl (fun cs (c,i)=>cs.setIfInBounds (j * sz+i) c) ys) h5 hvs (by
    have:(v.cells.zipIdx.foldl (fun cs (c,i)=>cs.setIfInBounds (j * sz+i) c) ys).toList.length=ys.size:=by
     rw[<-Array.foldl_toList,Array.toList_zipIdx];have:=congrArg List.length key;simp at this;simp only[cT];rw[this,hsz];omega
    rw[cT] at this;rw[this]
    have:(j+1+els'.length) * sz=j * sz+sz+els'.length * sz:=by rw[bJ,bJ];omega
    omega)
   rw[<-Array.foldl_toList,Array.toList_zipIdx] at g2;refine⟨us,v.cells.toList::cs,?_,?_,by simp[g3],?_,?_,?_⟩
   ·simp only[fU,Instr.fill]
    rw[if_neg (by simp[hsz];omega)];exact g1
   ·rw[g2,key]
    have hl:(ys.toList.take (j * sz)).length=j * sz:=by rw[aS];simp;omega
    have l1:(ys.toList.take (j * sz)++v.cells.toList).length=(j+1) * sz:=by rw[List.length_append,hl,bJ];simp[hsz]
    have t1: ∀C:List Value,List.take ((j+1) * sz) (ys.toList.take (j * sz)++v.cells.toList++C)=ys.toList.take (j * sz)++v.cells.toList:=fun C=>by rw[<-l1,List.take_left'];rfl
    have t2:List.drop ((j+1+els'.length) * sz) (ys.toList.take (j * sz)++v.cells.toList++List.drop (j * sz+sz) ys.toList)=List.drop ((j+(els'.length+1)) * sz) ys.toList:=by
     rw[show(j+1+els'.length) * sz=(j+1) * sz+els'.length * sz by rw[bJ],<-List.drop_drop];rw[show List.drop ((j+1) * sz) (ys.toList.take (j * sz)++v.cells.toList++List.drop (j * sz+sz) ys.toList)=List.drop (j * sz+sz) ys.toList by rw[<-l1,List.drop_left'];rfl];rw[List.drop_drop];congr 1;omega
    rw[t1,t2];simp
   ·intro l hl
    rcases bA.1 hl with rfl |hl
    ·simpa using hsz
    ·exact g4 l hl
   ·intro l hl
    rcases bA.1 hl with rfl |hl
    ·exact h2
    ·exact g5 l hl
   ·intro q e d he hd
    cases q with
    |zero=>
     simp at he hd;subst he hd
     exact⟨hcells,fun u hu=>by
      obtain⟨i,hi⟩:=aO.1 hu
      have hi':i<x.cells.length:=by rw[<-hcells.1];exact(aA.1 hi).1
      exact Iq (hcells.2 i x.cells[i] u (by simp[hi']) hi) (TF h4 (show x.cells[i]?=some x.cells[i] by simp[hi']))⟩
    |succ q=>exact g6 q e d (by simpa using he) (by simpa using hd)
  ·cases h
 | [],_::_,_,_,_,_,h,_,_=>by simp[JF] at h
 |_::_,[],_,_,_,_,h,_,_=>by simp[JF] at h
end
section
variable {P:Program} {E:Env} {N:Nat} {st:AS} {th:List NLoc} {z:AO} {a:Act} {w:World}
theorem NdAt.of_rows {L:NLoc}{T:TypeId}{k:Nat}{els:List (List AV)}{cs:List (List Value)}{cells:Array Value}{rest:List Value}(hb:w.heap[L.b]?=some (.cells cells T (0,0)))(hp:L.ph=false)(ho:L.o=0)(hk:L.k=k)(hc:cells.toList=cs.flatten++rest)(hcap:L.cap * k≤cells.size)
  (hlen:cs.length=els.length) (hle:els.length≤L.cap) (h1: ∀l ∈ cs,l.length=k) (h2: ∀l ∈ els,l.length=k) (h3: ∀(j:Nat)(e:List AV)(d:List Value),els[j]?=some e->cs[j]?=some d->Reps w z [] e d/\ ∀u ∈ d,u.oneCell'=true):NdAt w z th L (.lst T k els):=by
 refine .inr ⟨hp,cells,(0,0),hb,fun i _=>by simp,hk,by rw[ho,hk];omega,hle,fun i e he=>⟨by rw[hk];exact h2 e (aB he),fun j x hj=>?_⟩⟩
 have hi:i<cs.length:=by rw[hlen];exact(aA.1 he).1
 have hd:cs[i]?=some cs[i]:=by simp[hi]
 obtain⟨hr,h4⟩:=h3 i e _ he hd;obtain⟨y,hy,hr'⟩:=hr.get hj;refine⟨y,?_,hr',h4 y (aB hy)⟩;have:=KU h1 hd hy;rw[<-bW,hc,ho,hk,Nat.zero_add,bF (aA.1 this).1];exact this
theorem Mr (h:Sim E N st th z a w){T e s1 b1 sz by':Nat}{z1:Option (List Value)}{kk:TK}{zs:List Value}{parts:Array (Nat×Operand)}(hT:AK P T=some ⟨.slice e,s1,b1,z1⟩)(hTe:AK P e=some ⟨kk,sz,by',some zs⟩){c':List AV}{els:List (List AV)}
  (hr:Reps w z [] c' ((parts.toList.map (·.2)).map a.eval)) (hels:JF sz 0 (parts.toList.map (·.1)) c'=some els) (hle:els.length * sz≤16777216) {d:Option Nat} {t:TypeId} {pos:String} {aft:Array Edge} {g:Option (Nat×Bool)}:
  ∃w',(execOp a.eval ⟨d,.buildSlice T els.length parts,t,pos,aft,g⟩).run P w= .ok (.value (.slice (some ⟨w.heap.size,0,none⟩) els.length els.length)) w'/\Ext w w'/\Sim E N (Br st (.lst e sz els)) (th++[⟨w.heap.size,0,sz,els.length,false⟩]) z a w':=by
 obtain⟨v0,hz0⟩:=Cv hTe;obtain⟨i,dd,hi1,hi2,hi3⟩:=BE hTe;simp only[TY.mk.injEq] at hi3;have hsz0:(zeroValue e).run P w= .ok v0 w:=(hz0 w).1
 let zeros:Array Value:=(Array.range (els.length * sz)).map ((if els.length * sz=0 then #[] else v0.cells)[· % (if els.length * sz=0 then #[] else v0.cells).size]!)
 obtain⟨us,cs,g1,g2,g3,g4,g5,g6⟩:=Ma (parts.toList.map (·.1)) c' 0 _ els zeros hels hr (by simp[zeros]);simp only[gP,List.take_zero,List.nil_append,Nat.zero_add] at g2
 have hzip:(parts.toList.map (·.1)).zip ((parts.toList.map (·.2)).map a.eval)=parts.toList.map fun p=>(p.1,a.eval p.2):=by
  rw[fV,List.zip_map'];rfl
 rw[hzip] at g1;have hd:zeros.toList.drop (els.length * sz)=[]:=aR (by simp[zeros]);rw[hd] at g2
 have hus:us.size=els.length * sz:=by
  have:us.toList.length=cs.length * sz:=by
   rw[g2,List.append_nil];clear g1 g2 g3 g6
   induction cs with
   |nil=>simp
   |cons l r ih=>rw[dP,List.length_append,g4 l (by simp),ih (fun l hl=>g4 l (by simp[hl])),List.length_cons,bJ];omega
  rw[g3] at this;simpa using this
 have ex:=Fq w (.cells us e);have le:Le w z (w.alloc (.cells us e)) z:=ex.le (fun _ _ h=>h) h.mem.zlt;have hS':=h.add ex ⟨w.heap.size,0,sz,els.length,false⟩ (.lst e sz els) (Nat.le_refl _) (by simp)
  (NdAt.of_rows (cs:=cs) (cells:=us) (rest:=[]) (Gq _ _) rfl rfl rfl g2 (by simp[hus]) g3 (Nat.le_refl _) g4 g5 (fun j e d he hd=>⟨by simpa using(g6 j e d he hd).1.on le [],(g6 j e d he hd).2⟩))
 refine⟨w.alloc (.cells us e),?_,ex,hS'⟩;have hund:=AD (w:=w) (Aj hT rfl);have hsz:=As (w:=w) hTe;simp only[execOp,Instr.buildSlice,aQ,hund,hsz,aL];rw[if_neg (by omega)]
 have hfill: ∀C:Array Value,C=zeros->Instr.fill (fun i=>some (i * sz,sz)) C (parts.map fun p=>(p.1,a.eval p.2)).toList=some us:=by
  intro C hC;subst hC;simpa using g1
 by_cases h0:els.length * sz=0
 ·simp only[h0,if_true,aQ,bT,aL]
  have:=hfill ((Array.range 0).map ((#[]:Array Value)[· % (#[]:Array Value).size]!)) (by simp[zeros,h0]);simp only[this]
  rfl
 ·simp only[h0,if_false,aQ,hsz0,bT,aL]
  have:=hfill ((Array.range (els.length * sz)).map (v0.cells[· % v0.cells.size]!)) (by simp[zeros,h0]);simp only[this]
  rfl
theorem Mb (h:Sim E N st th z a w){T:TypeId}{len:Nat}{parts:Array (Nat×Operand)}{d:Option Nat}{t:TypeId}{pos:String}{aft:Array Edge}{g:Option (Nat×Bool)}{k:AV->AS->Prop}(hk:S2 P E.G st (.buildSlice T len parts) k):
  OF P E N ⟨d,.buildSlice T len parts,t,pos,aft,g⟩ a w th [] st.m k true:=by
 simp only[S2] at hk;split at hk
 ·rename_i e s1 b1 z1 c hT he
  split at hk
  ·rename_i sz by' zs c' st' hTe hf
   split at hk
   ·rename_i els hels
    obtain⟨⟨rfl,hle⟩,hk⟩:=hk;obtain⟨z',hz,hS,hr,hm,hn⟩:=GE c h (Bo h he) hf;obtain⟨w',g1,g2,g3⟩:=Mr hS (d:=d) (t:=t) (pos:=pos) (aft:=aft) (g:=g) hT hTe hr hels hle;exact⟨_,_,_,_,z',w',.inl g1,hk,g3,.s _ _ 0 _ _ 0 _ (hS.get_new _) rfl (Nat.le_refl _) (by simp) (fun _=>by simp),hm,fun _=>g2,BX _ _,g2.t⟩
   ·exact hk.elim
  ·exact hk.elim
 ·exact hk.elim
theorem ON (vs:List Value)(o:Nat)(cs:Array Value)(h:o+vs.length≤cs.size):(E1 cs o vs).toList=cs.toList.take o++vs++cs.toList.drop (o+vs.length):=by
 apply eB;intro i;rw[bW,CP vs o cs h]
 have hl:(cs.toList.take o).length=o:=by rw[aS];simp;omega
 by_cases h1:i<o
 ·rw[if_neg (by omega),bB,bF (by omega),bM h1,bW]
 ·by_cases h2:i<o+vs.length
  ·rw[if_pos (by omega),bB,bQ (by omega),hl,bF (by omega)]
  ·rw[if_neg (by omega),bQ (by simp[hl];omega),bI]
   simp only[List.length_append,hl,bW]
   congr 1;omega
theorem Hu {cs new:List AV}{off:Nat}(h:off+new.length≤cs.length):(splice cs off new).length=cs.length:=by
 unfold splice;simp;omega
theorem Gf {T:TypeId}{y:TY}(hT:AK P T=some y){b o:Nat}{v:Value}(hs:v.cells.size=y.size){cells:Array Value}{S:TypeId}{fr:Nat×Nat}(hb:w.heap[b]?=some (.cells cells S fr))(hf:RN cells fr)(ho:o+y.size≤cells.size)(h1: ∀u ∈ v.cells.toList,u.oneCell'=true):
  (Instr.storeAt T (.pointer (some ⟨b,o,none⟩)) v).run P w= .ok () (w.setCells b o v.cells.toList):=by
 have:=run_storeCells_cells (P:=P) b o v.cells.toList 0 w (fun j hj=>by
  simp at hj
  rw[Bj hb];simp[show o+j<cells.size by omega]) (fun j hj=>by
  simp at hj
  exact Ny hb hf (by omega)) h1
 simp only[Instr.storeAt,Instr.sureAddr,storeVar,aQ,bT,aL,As hT];rw[if_neg (by omega)];simpa using this
theorem HV {x:AV}{v:Value}(hr:Rep w z th x v)(ho:x.okPart=true)(h:x.cells.all AV.cell1=true): ∀u ∈ v.cells.toList,u.oneCell'=true:=by
 intro u hu;have hc:=CS hr ho;obtain⟨i,hi⟩:=aO.1 hu
 have hi':i<x.cells.length:=by rw[<-hc.1];exact(aA.1 hi).1
 exact Iq (hc.2 i x.cells[i] u (by simp[hi']) hi) (TF h (show x.cells[i]?=some x.cells[i] by simp[hi']))
theorem UY (h:Sim E N st th z a w){T:TypeId}{X V:Operand}{d:Option Nat}{t:TypeId}{pos:String}{aft:Array Edge}{g:Option (Nat×Bool)}{k:AV->AS->Prop}(hk:S2 P E.G st (.store T X V) k):
  OF P E N ⟨d,.store T X V,t,pos,aft,g⟩ a w th (G_ st E.G (.store T X V)) st.m k false:=by
 simp only[S2] at hk;split at hk
 ·rename_i y n i off v hT hx hv
  obtain⟨L,hL,hp⟩:=(AL h hx).p_inv;have hr:=AL h hv
  have hts:G_ st E.G (.store T X V)=[n]:=by simp only[G_,hx]
  rw[hts];split at hk
  ·rename_i T' c ho
   split at hk
   ·rename_i hc;obtain⟨rfl,h2,h3,h4,h5⟩:=hc
    obtain⟨L',k1,⟨hph,cells,fr,k2,k3,k4,k5⟩,k6⟩:=h.mem.nds _ _ ho;rw[hL] at k1;cases k1;obtain⟨k6,k7,k8⟩:=k6 hph;have hcs:=CS hr h4
    have hsz:(a.eval V).cells.size=y.size:=by have:=hcs.1;rw[h2] at this;simpa using this
    have hcl:cells.size=c.length:=by simpa using k5.1
    have hone:=HV hr h4 h5;obtain⟨q1,q2,q3⟩:=DB L.b (a.eval V).cells.toList off w cells T' fr k2;have le:Le w z (w.setCells L.b off (a.eval V).cells.toList) z:=⟨fun _ _ h=>h,fun t b hb=>q2 b (fun e=>by subst e;exact k7 t hb)⟩;refine⟨undef,.r undef,_,th,z,w.setCells L.b off (a.eval V).cells.toList,.inr ⟨?_,rfl⟩,hk,h.write ho hL hph (Bh _ _ _ _) q1 q2 ?_,.r _ _,rfl,(fun h=>by cases h),Later.refl _,⟨eL q1.symm,fun b _ hne=>q2 b (fun e=>hne n (by simp) L hL hph e.symm),Bh _ _ _ _⟩⟩
    ·have:=Gf (P:=P) hT (b:=L.b) (o:=off) hsz k2 k3 (by omega) hone
     simp only[execOp,hp,k4,gP,Nat.zero_add,aQ,this,aL]
     rfl
    ·refine⟨hph,_,fr,q3,fun i hi=>by rw[C5] at hi;exact k3 i hi,k4,?_⟩
     rw[ON _ _ _ (by simp[hsz];omega)];have:=(Reps.splice (off:=off) k5 hcs).on le [];simpa using this
   ·exact hk.elim
  ·rename_i T' k' els ho
   split at hk
   ·rename_i v' st' hf
    obtain⟨z',hz,hS,hr',hm,hn⟩:=Jp v h hr hf;split at hk
    ·rename_i T2 k2' els2 e ho' he
     obtain⟨⟨h2,h3,h4,h5⟩,hk⟩:=hk;obtain⟨L',k1,k2,k6⟩:=hS.mem.nds _ _ ho';rw[hL] at k1;cases k1;obtain⟨_,g1,hnd,_⟩:=h.mem.nds _ _ ho;rw[hL] at g1;cases g1
     rcases hnd with ⟨_,hn0⟩ |⟨hph,cells,fr,g2,g3,g4,g5,g6,g7⟩
     ·subst hn0;simp at he
     obtain⟨k6,k7,k8⟩:=k6 hph;have hcs:=CS hr' h4
     have hsz:(a.eval V).cells.size=y.size:=by have:=hcs.1;rw[h2] at this;simpa using this
     have hone:=HV hr' h4 h5;have hi:i<els.length:=(aA.1 he).1;have hel:=(g7 i e he).1
     have hbound:L.o+i * L.k+L.k≤cells.size:=by
      have:(i+1) * L.k≤L.cap * L.k:=bP _ (by omega);rw[bJ] at this;omega
     obtain⟨q1,q2,q3⟩:=DB L.b (a.eval V).cells.toList (L.o+i * L.k+off) w cells T' fr g2;have le:Le w z' (w.setCells L.b (L.o+i * L.k+off) (a.eval V).cells.toList) z':=⟨fun _ _ h=>h,fun t b hb=>q2 b (fun e=>by subst e;exact k7 t hb)⟩;have le0:Le w z w z':=⟨hz,fun _ _ _=>rfl⟩;refine⟨undef,.r undef,_,th,z',w.setCells L.b (L.o+i * L.k+off) (a.eval V).cells.toList,.inr ⟨?_,rfl⟩,hk,hS.write ho' hL hph (Bh _ _ _ _) q1 q2 ?_,.r _ _,hm,(fun h=>by cases h),Later.refl _,⟨eL q1.symm,fun b _ hne=>q2 b (fun e=>hne n (by simp) L hL hph e.symm),Bh _ _ _ _⟩⟩
     ·have:=Gf (P:=P) hT (b:=L.b) (o:=L.o+i * L.k+off) hsz g2 g3 (by omega) hone
      simp only[execOp,hp,aQ,this,aL]
      rfl
     ·have hvl:(a.eval V).cells.toList.length=y.size:=by simpa using hsz
      refine .inr ⟨hph,_,fr,q3,fun i hi=>by rw[C5] at hi;exact g3 i hi,g4,by rw[C5];exact g5,by simpa using g6,fun i' e' he'=>?_⟩
      by_cases hii:i=i'
      ·subst hii
       rw[List.getElem?_set_self hi] at he';cases he'
       have hl:(splice e off v'.cells).length=L.k:=by rw[Hu (by rw[h2];omega)];exact hel
       refine⟨hl,fun j x hj=>?_⟩
       have hjk:j<L.k:=by rw[<-hl];exact(aA.1 hj).1
       rw[CP _ _ _ (by rw[hvl];omega)]
       by_cases hin:off≤j/\j<off+y.size
       ·rw[if_pos (by rw[hvl];omega)]
        have hjx:v'.cells[j - off]?=some x:=by
         unfold splice at hj;rw[bB,bQ (by rw[aS];omega),aS,show min off e.length=off by omega,bF (by rw[h2];omega)] at hj;exact hj
        obtain⟨u,hu,hru⟩:=hcs.get hjx;refine⟨u,?_,by simpa using hru.on le [],hone u (aB hu)⟩;rw[show L.o+i * L.k+j - (L.o+i * L.k+off)=j - off by omega];exact hu
       ·rw[if_neg (by rw[hvl];omega)]
        have hjx:e[j]?=some x:=by
         unfold splice at hj
         by_cases hlt:j<off
         ·rw[bB,bF (by rw[aS];omega),bM hlt] at hj;exact hj
         ·rw[bQ (by rw[List.length_append,aS,h2];omega),bI,List.length_append,aS,h2] at hj
          rw[<-hj];congr 1;omega
        obtain⟨u,hu,hru,h1u⟩:=(g7 i e he).2 j x hjx;exact⟨u,hu,by simpa using(hru.on' le0).on le [],h1u⟩
      ·rw[List.getElem?_set_ne hii] at he'
       obtain⟨hl,hc⟩:=g7 i' e' he';refine⟨hl,fun j x hj=>?_⟩
       have hjk:j<L.k:=by rw[<-hl];exact(aA.1 hj).1
       obtain⟨u,hu,hru,h1u⟩:=hc j x hj;refine⟨u,?_,by simpa using(hru.on' le0).on le [],h1u⟩;rw[CP _ _ _ (by rw[hvl];omega),if_neg]
       ·exact hu
       ·rw[hvl]
        rintro⟨a1,a2⟩
        rcases fW i i' with hlt |hge
        ·have:(i+1) * L.k≤i' * L.k:=bP _ hlt
         rw[bJ] at this;omega
        ·have:(i'+1) * L.k≤i * L.k:=bP _ (by omega)
         rw[bJ] at this;omega
    ·exact hk.elim
   ·exact hk.elim
  ·exact hk.elim
 ·exact hk.elim
theorem FX (h:Sim E N st th z a w){T:TypeId}{X V:Operand}{d:Option Nat}{t:TypeId}{pos:String}{aft:Array Edge}{g:Option (Nat×Bool)}{k:AV->AS->Prop}(hk:S2 P E.G st (.makeSlice T X V) k):
  OF P E N ⟨d,.makeSlice T X V,t,pos,aft,g⟩ a w th [] st.m k true:=by
 simp only[S2] at hk;split at hk
 ·rename_i e s1 b1 z1 k1 n k2 n' hT hx hv
  split at hk
  ·rename_i kk sz bytes zs hTe
   obtain⟨⟨rfl,h0,h63,hb,hsz,hzl,hz1⟩,hk⟩:=hk;have e1:=(AL h hx).r_inv;have e2:=(AL h hv).r_inv;obtain⟨v0,hz0⟩:=Cv hTe;obtain⟨i,dd,hi1,hi2,hi3⟩:=BE hTe;simp only[TY.mk.injEq] at hi3;obtain⟨row,hrow⟩: ∃row:Array Value,row=(Array.range (n.toNat * sz)).map ((if n.toNat * sz=0 then #[] else v0.cells)[· % (if n.toNat * sz=0 then #[] else v0.cells).size]!):=⟨_,rfl⟩;have ex:=Fq w (.cells row e)
   have hv0:v0.cells.size=sz:=by have:=(hz0 w).2;rw[<-hzl,<-this];simp
   have hS':=h.add ex ⟨w.heap.size,0,sz,n.toNat,false⟩ (.lst e sz (List.replicate n.toNat (zs.map .r))) (Nat.le_refl _) (by simp) (by
    refine .inr ⟨rfl,row,(0,0),Gq _ _,fun i _=>by simp,rfl,by simp[hrow],by simp,fun i el he=>?_⟩
    have hi:i<n.toNat:=by have:=(aA.1 he).1;simpa using this
    rw[List.getElem?_replicate,if_pos hi] at he;cases he;refine⟨by simpa using hzl,fun j x hj=>?_⟩;simp only[List.getElem?_map,aF] at hj;obtain⟨u,hu,rfl⟩:=hj
    have hj:j<sz:=by rw[<-hzl];exact(aA.1 hu).1
    have hlt:i * sz+j<n.toNat * sz:=by
     have:(i+1) * sz≤n.toNat * sz:=bP _ hi;rw[bJ] at this;omega
    refine⟨u,?_,.r _ _,bS.1 hz1 u (aB hu)⟩
    have hne: ¬n.toNat * sz=0:=by omega
    show row[0+i * sz+j]?=some u;rw[hrow,Nat.zero_add];simp only[hne,if_false,Array.getElem?_map];rw[Array.getElem?_eq_getElem (by simpa using hlt)];simp only[Array.getElem_range,Option.map_some,hv0,aM];rw[show(i * sz+j) % sz=j by rw[Nat.mul_comm,Nat.mul_add_mod,fI hj]]
    have:v0.cells[j]?=some u:=by rw[<-(hz0 w).2] at hu;simpa using hu
    obtain⟨hlt',hg⟩:=bR.1 this;rw[getElem!_pos v0.cells j hlt']
    exact hg)
   refine⟨.slice (some ⟨w.heap.size,0,none⟩) n.toNat n.toNat,_,_,_,z,_,.inl ?_,hk,hS',.s _ _ 0 _ _ 0 _ (h.get_new _) rfl (Nat.le_refl _) (by simp) (fun _=>by simp),rfl,fun _=>ex,BX _ _,ex.t⟩;have hund:=AD (w:=w) (Aj hT rfl);have hinfo:=Cw (w:=w) hi1;have hsize:=As (w:=w) hTe;have hwrap:IntKind.i64.wrap n=n:=gC n ⟨by omega,h63⟩
   have hbytes:(i.bytes:Int) * n≤281474976710656:=by rw[<-hi3.2.2.1,Int.mul_comm];exact hb
   simp only[execOp,e1,e2,Instr.makeSlice,aQ,hund,asInt,asIntOf,bT,aL,hinfo,hwrap]
   have c1: ¬n<0:=by omega
   have c2: ¬(2 ^ 48<(i.bytes:Int) * n):=by omega
   have c3: ¬n>n:=by omega
   simp only[c1,c2,c3,decide_false,Bool.or_false,Bool.false_or,if_false,gt_iff_lt,bU,aQ,run_askRoom,hsize,aL]
   by_cases hn0:n.toNat * sz=0
   ·simp only[hn0,if_true,aQ,bT,aL]
    simp only[hn0,if_true] at hrow;rw[<-hrow]
    rfl
   ·simp only[hn0,if_false,aQ,(hz0 w).1,bT,aL]
    simp only[hn0,if_false] at hrow;rw[<-hrow]
    rfl
  ·exact hk.elim
 ·exact hk.elim
end
section
variable {P:Program} {E:Env} {N:Nat} {st:AS} {th:List NLoc} {z:AO} {a:Act} {w:World} {o:List (Nat×Nd)} {n:Nat}
def FreeB (E:Env)(o:List (Nat×Nd))(th:List NLoc)(z:AO)(w:World)(b:Nat):Prop:= ∃U,UlOK U E o th z w/\ ∀i,¬U i b
theorem Mem.freeB (h:Mem E o n th z w){i:Nat}{nd:Nd}{L:NLoc}(hi:lk o i=some nd)(hL:th[i]?=some L)(hp:L.ph=false){o':List (Nat×Nd)}(hs: ∀i x,lk o' i=some x->lk o i=some x):FreeB E o' th z w L.b:=
 let ⟨U,hU⟩:=h.uls;⟨U,⟨fun i T k els op L hi hL=>hU.at_ i T k els op L (hs _ _ hi) hL,hU.lt,hU.nz,hU.ow,hU.inj,fun i nd L j hi=>hU.kn i nd L j (hs _ _ hi)⟩,fun j=>hU.kn i nd L j hi hL hp⟩
theorem FreeB.other {b:Nat}(h:FreeB E o th z w b)(hm: ∀i T k els op L,lk o i=some (.ul T k els op)->th[i]?=some L->els=[]\/L.b≠b){w':World}(hs:w'.heap.size=w.heap.size)(hsame: ∀b',b'≠b->w'.heap[b']?=w.heap[b']?)(hz: ∀t,¬z t b):FreeB E o th z w' b:=by
 obtain⟨U,hU,hb⟩:=h
 have hne: ∀i b',U i b'->b'≠b:=fun i b' hb' e=>by subst e;exact hb i hb'
 have le:Le w z w' z:=⟨fun _ _ h=>h,fun t b' hb'=>hsame b' (fun e=>by subst e;exact hz t hb')⟩;refine⟨U,⟨fun i T k els op L hi hL=>?_,fun i b hb=>by rw[hs];exact hU.lt i b hb,hU.nz,hU.ow,hU.inj,hU.kn⟩,hb⟩;have:=(hU.at_ i T k els op L hi hL).on le (fun b' hb'=>hsame b' (hne i b' hb')) ((hm i T k els op L hi hL).imp id (fun h=>hsame _ h)) [];simpa using this
theorem Mem.other (h:Mem E o n th z w){w':World}{b:Nat}(hy:Sys w w')(hs:w'.heap.size=w.heap.size)(hsame: ∀b',b'≠b->w'.heap[b']?=w.heap[b']?)(hz: ∀t,¬z t b)(hn: ∀i nd L,lk o i=some nd->th[i]?=some L->L.ph=false->L.b≠b)(hb:E.own b\/E.w0.heap.size≤b)(hU:FreeB E o th z w b):Mem E o n th z w':=by
 have le:Le w z w' z:=⟨fun _ _ h=>h,fun t b' hb'=>hsame b' (fun e=>by subst e;exact hz t hb')⟩;refine⟨h.len,fun j x hj=>?_,h.inj,fun t b hb=>by rw[hs];exact h.zlt t b hb,by rw[hs];exact h.grow,fun b' hb' ho=>?_,h.zin,h.zout,h.zb,fun g cs hg=>?_,h.pre,h.sys.trans hy,?_⟩
 ·obtain⟨M,k1,k2,k3⟩:=h.nds j x hj
  exact⟨M,k1,by simpa using k2.on le (fun hp=>hsame _ (hn j x M hj k1 hp)) [],fun hp=>⟨by rw[hs];exact(k3 hp).1,(k3 hp).2⟩⟩
 ·have:b'≠b:=fun e=>by
   subst e
   rcases hb with hb |hb
   ·exact ho hb
   ·omega
  exact(hsame b' this).trans (h.frame b' hb' ho)
 ·obtain⟨k1,k2⟩:=h.globs g cs hg
  exact⟨k1,fun j v hv=>(BO (le.same _ _ k1) _).trans (k2 j v hv)⟩
 ·obtain⟨U,hU',_⟩:=hU.other (w':=w') (fun i T k els op L hi hL=>by
   obtain⟨M,k1,k2,k3⟩:=h.nds i _ hi;rw[hL] at k1;cases k1
   exact k2.ul_nil.imp id (fun hp=>hn i _ L hi hL hp)) hs hsame hz
  exact⟨U,hU'⟩
theorem Mem.know (h:Mem E o n th z w)(L:NLoc)(nd:Nd)(hb:L.ph=false->L.b<w.heap.size/\(∀t,¬z t L.b)/\(E.own L.b\/E.w0.heap.size≤L.b))(hne: ∀i nd M,lk o i=some nd->th[i]?=some M->M.ph=false->L.ph=false->M.b≠L.b)(hn:NdAt w z (th++[L]) L nd)(hU:L.ph=true\/FreeB E o th z w L.b)(hu: ∀T k els op,nd= .ul T k els op->UlAt w z (th++[L]) (fun _=>False) L els op:=by intro _ _ _ _ h;cases h):Mem E ((n,nd)::o) (n+1) (th++[L]) z w:=by
 have l:Le w z w z:=Le.refl _ _
 have hget:(th++[L])[n]?=some L:=by rw[<-h.len];simp
 refine⟨by simp[h.len],fun i y hi=>?_,fun i j x y M M' hi hj hM hM' hp hp' hbb=>?_,h.zlt,h.grow,h.frame,h.zin,h.zout,h.zb,h.globs,fun i L hi=>Ak _ (h.pre i L hi),h.sys,?_⟩
 ·simp only[lk] at hi
  by_cases he:n=i
  ·subst he
   rw[if_pos rfl] at hi;cases hi;exact⟨L,hget,hn,hb⟩
  ·rw[if_neg he] at hi
   obtain⟨M,h1,h2,h3⟩:=h.nds i y hi;exact⟨M,Ak _ h1,h2.on l (fun _=>rfl) [L],h3⟩
 ·have old: ∀i x M,lk ((n,nd)::o) i=some x->(th++[L])[i]?=some M->M.ph=false->(i=n/\M=L)\/(∃x,lk o i=some x/\th[i]?=some M/\(L.ph=false->M.b≠L.b)):=by
   intro i x M hi hM hp;simp only[lk] at hi
   by_cases he:n=i
   ·subst he;rw[hget] at hM;cases hM;exact .inl ⟨rfl,rfl⟩
   ·rw[if_neg he] at hi
    obtain⟨M',h1,_,h3⟩:=h.nds i x hi;have:=Ak [L] h1;rw[this] at hM;cases hM;exact .inr ⟨x,hi,h1,hne i x _ hi h1 hp⟩
  rcases old i x M hi hM hp with ⟨rfl,rfl⟩ |⟨x1,a1,b1,c1⟩<;>rcases old j y M' hj hM' hp' with ⟨rfl,rfl⟩ |⟨x2,a2,b2,c2⟩
  ·rfl
  ·exact(c2 hp hbb.symm).elim
  ·exact(c1 hp' hbb).elim
  ·exact h.inj i j x1 x2 M M' a1 a2 b1 b2 hp hp' hbb
 ·have hU': ∃U,UlOK U E o th z w/\(L.ph=false-> ∀i,¬U i L.b):=by
   rcases hU with hU |⟨U,h1,h2⟩
   ·obtain⟨U,h1⟩:=h.uls;exact⟨U,h1,fun hp=>by rw[hU] at hp;cases hp⟩
   ·exact⟨U,h1,fun _=>h2⟩
  obtain⟨U,hU,hf⟩:=hU';refine⟨fun i b=>i≠n/\U i b,fun i T k els op M hi hM=>?_,fun i b hb=>hU.lt i b hb.2,fun i b hb=>hU.nz i b hb.2,fun i b hb=>hU.ow i b hb.2,fun i j b hb hc=>hU.inj i j b hb.2 hc.2,fun i nd' M j hi hM hp hb=>?_⟩
  ·simp only[lk] at hi
   by_cases he:n=i
   ·subst he
    rw[if_pos rfl] at hi;cases hi;rw[hget] at hM;cases hM;obtain⟨F,h1,h2,h3⟩:=hu T k els op rfl;exact⟨F,fun i j b hb=>(h1 i j b hb).elim,h2,h3⟩
   ·rw[if_neg he] at hi
    obtain⟨M',k1,k2,k3⟩:=h.nds i _ hi;have:=Ak [L] k1;rw[this] at hM;cases hM;obtain⟨F,h1,h2,h3⟩:=(hU.at_ i T k els op M hi k1).on l (fun _ _=>rfl) (.inr rfl) [L];exact⟨F,fun i' j b hb=>⟨cL he,h1 i' j b hb⟩,h2,h3⟩
  ·simp only[lk] at hi
   by_cases he:n=i
   ·subst he
    rw[hget] at hM;cases hM;exact hf hp j hb.2
   ·rw[if_neg he] at hi
    obtain⟨M',k1,k2,k3⟩:=h.nds i _ hi;have:=Ak [L] k1;rw[this] at hM;cases hM;exact hU.kn i _ _ j hi k1 hp hb.2
theorem Sim.know (h:Sim E N st th z a w)(L:NLoc)(nd:Nd)(hb:L.ph=false->L.b<w.heap.size/\(∀t,¬z t L.b)/\(E.own L.b\/E.w0.heap.size≤L.b))(hne: ∀i nd M,lk st.o i=some nd->th[i]?=some M->M.ph=false->L.ph=false->M.b≠L.b)(hn:NdAt w z (th++[L]) L nd)(hU:L.ph=true\/FreeB E st.o th z w L.b)(hu: ∀T k els op,nd= .ul T k els op->UlAt w z (th++[L]) (fun _=>False) L els op:=by intro _ _ _ _ h;cases h):
  Sim E N (Br st nd) (th++[L]) z a w:=
 ⟨h.mem.know L nd hb hne hn hU hu,h.size,h.dfs,fun i x hi=>let ⟨y,hy,hr⟩:=h.slots i x hi;⟨y,hy,hr.on (Le.refl _ _) [L]⟩⟩
theorem Sim.other (h:Sim E N st th z a w){w':World}{b:Nat}(hy:Sys w w')(hs:w'.heap.size=w.heap.size)(hsame: ∀b',b'≠b->w'.heap[b']?=w.heap[b']?)(hz: ∀t,¬z t b)(hn: ∀i nd L,lk st.o i=some nd->th[i]?=some L->L.ph=false->L.b≠b)(hb:E.own b\/E.w0.heap.size≤b)(hU:FreeB E st.o th z w b):Sim E N st th z a w':=
 ⟨h.mem.other hy hs hsame hz hn hb hU,h.size,h.dfs,fun i x hi=>let ⟨y,hy,hr⟩:=h.slots i x hi;⟨y,hy,hr.on' ⟨fun _ _ h=>h,fun t b' hb'=>hsame b' (fun e=>by subst e;exact hz t hb')⟩⟩⟩
theorem Fb (h:Sim E N st th z a w){T:TypeId}{y:TY}(hT:AK P T=some y){x:AV}{v:Value}(hr:Rep w z th x v){k:Nat}(hk:0<k){new:List (List AV)}(hq:NA st k y.k x=some new):
  ∃news:List Value,Src P k T v new.length news w/\(∀e ∈ new,e.length=k)/\ ∀(i:Nat)(e:List AV)(j:Nat)(x:AV),new[i]?=some e->e[j]?=some x-> ∃y,news[i * k+j]?=some y/\Rep w z [] x y/\y.oneCell'=true:=by
 unfold NA at hq;split at hq
 ·rename_i e' hk'
  obtain⟨ad,c,rfl,hc,hcell⟩:=I4 h hr hq
  by_cases hne:new=[]
  ·subst hne
   refine⟨[],?_,by simp,fun i e j x he=>by simp at he⟩
   cases ad with
   |none=>exact Src.ofNil w (Aj hT hk') c
   |some ad=>exact Src.ofSlice w (Aj hT hk') ad 0 c [] (by simp) (fun j u hu=>by simp at hu) (by simp)
  ·rcases hcell with h0 |⟨b,o,rfl,hlt,_,hcell⟩
   ·exact(hne h0).elim
   ·have hall: ∀q,q<new.length * k-> ∃u,w.cell? ⟨b,o+q,none⟩=some u/\u.oneCell'=true:=by
     intro q hq;have hi:q / k<new.length:=Nat.div_lt_of_lt_mul (by rw[Nat.mul_comm];exact hq);obtain⟨h1,h2⟩:=hcell (q / k) new[q / k] (by simp[hi])
     have hj:q % k<new[q / k].length:=by rw[h1];exact Nat.mod_lt _ hk
     obtain⟨u,hu,_,h3⟩:=h2 (q % k) new[q / k][q % k] (by simp[hj]);refine⟨u,?_,h3⟩;rw[show o+q / k * k+q % k=o+q by rw[dO,Nat.mul_comm,Nat.div_add_mod]] at hu;exact hu
    refine⟨(List.range (new.length * k)).map fun q=>(w.cell? ⟨b,o+q,none⟩).getD undef,?_,fun e he=>?_,fun i e j x he hx=>?_⟩
    ·refine Src.ofSlice w (Aj hT hk') _ _ c _ (by simp) (fun j u hu=>?_) (fun u hu=>?_)
     ·have hj:j<new.length * k:=by have:=(aA.1 hu).1;simpa using this
      obtain⟨u',h1,_⟩:=hall j hj;simp only[List.getElem?_map,dS hj,Option.map_some,aM,h1,dH] at hu;subst hu;rw[Cc];exact h1
     ·obtain⟨q,hq,rfl⟩:=cI.1 hu
      obtain⟨u',h1,h2⟩:=hall q (by simpa using hq);simp[h1,h2]
    ·obtain⟨i,hi⟩:=aO.1 he
     exact(hcell i e hi).1
    ·obtain⟨h1,h2⟩:=hcell i e he
     obtain⟨u,hu,hr',h3⟩:=h2 j x hx;refine⟨u,?_,hr',h3⟩;have hi:i<new.length:=(aA.1 he).1
     have hj:j<k:=by rw[<-h1];exact(aA.1 hx).1
     have:(i+1) * k≤new.length * k:=bP _ hi;rw[bJ] at this;rw[List.getElem?_map,dS (by omega)];simp[<-dO,hu]
 ·rename_i hk'
  split at hq
  ·rename_i s
   split at hq
   ·rename_i hk1;subst hk1;cases hq
    obtain rfl:=hr.r_inv
    have hl:(s.data.toList.map AC).length=s.size:=by rw[List.length_map,cT];rfl
    refine⟨byteCells s,by rw[hl];exact Src.ofString w (FJ hT hk') s,fun e he=>?_,fun i e j x he hx=>?_⟩
    ·obtain⟨b,_,rfl⟩:=cI.1 he;rfl
    ·rw[List.getElem?_map,aF] at he
     obtain⟨u,hu,rfl⟩:=he
     cases j with
     |succ j=>simp[AC] at hx
     |zero=>
      simp[AC] at hx;subst hx;refine⟨.int .u8 u.toNat,?_,.r _ _,rfl⟩;simp[byteCells,hu]
   ·cases hq
  ·cases hq
 ·cases hq
theorem Df (w:World)(x:Obj):Ext w (w.drew.alloc x):=⟨by show w.heap.size≤(w.heap.push x).size;simp,fun b hb=>by show(w.heap.push x)[b]?=_;simp[Array.getElem?_push,show b≠w.heap.size by omega],⟨rfl,rfl,rfl⟩⟩
theorem VZ (w:World)(x:Obj):(w.drew.alloc x).heap[w.heap.size]?=some x:=by show(w.heap.push x)[w.heap.size]?=_;simp
theorem Fo (w:World)(need old:Nat)(e:TypeId):need≤grownCap w need old e:=by unfold grownCap Question.cut;exact Nat.le_add_right _ _
theorem F_ (z:Array Value)(n:Nat):(Builtin.zeroCells z n).size=n * z.size:=by simp[Builtin.zeroCells]
theorem Jo (h:Sim E N st th z a w){e:Nat}{k:Nat}{olds news:List Value}{els0 new:List (List AV)}{cap:Nat}(zc:Array Value)(hz:zc.size=k)(hcap:els0.length+new.length≤cap)
  (h0: ∀(i:Nat)(e:List AV),els0[i]?=some e->e.length=k/\ ∀(j:Nat)(x:AV),e[j]?=some x-> ∃y,olds[i * k+j]?=some y/\Rep w z [] x y/\y.oneCell'=true) (hl0:olds.length=els0.length * k) (hl1:news.length=new.length * k)
  (h1: ∀e ∈ new,e.length=k) (h2: ∀(i:Nat)(e:List AV)(j:Nat)(x:AV),new[i]?=some e->e[j]?=some x-> ∃y,news[i * k+j]?=some y/\Rep w z [] x y/\y.oneCell'=true):
  Sim E N (Br st (.lst e k (els0++new))) (th++[⟨w.heap.size,0,k,cap,false⟩]) z a (w.drew.alloc (.cells ((olds++news).toArray++Builtin.zeroCells zc (cap - (els0.length+new.length))) e)):=by
 have ex:=Df w (.cells ((olds++news).toArray++Builtin.zeroCells zc (cap - (els0.length+new.length))) e);have le:Le w z _ z:=ex.le (fun _ _ h=>h) h.mem.zlt;refine h.add ex ⟨w.heap.size,0,k,cap,false⟩ _ (Nat.le_refl _) (by show w.heap.size<(w.heap.push _).size;simp) (.inr ⟨rfl,_,(0,0),VZ _ _,fun i _=>by simp,rfl,?_,by simpa using hcap,fun i el he=>?_⟩)
 ·simp only[Nat.zero_add,Array.size_append,gD,List.length_append,hl0,hl1,F_,hz]
  rw[<-bJ,<-bJ];exact bP _ (by omega)
 ·rw[gL] at he
  have key:el.length=k/\ ∀(j:Nat)(x:AV),el[j]?=some x-> ∃y,(olds++news)[i * k+j]?=some y/\Rep w z [] x y/\y.oneCell'=true:=by
   split at he
   ·rename_i hi
    obtain⟨g1,g2⟩:=h0 i el he;refine⟨g1,fun j x hj=>?_⟩;obtain⟨y,hy,hr⟩:=g2 j x hj;exact⟨y,by rw[bF (aA.1 hy).1];exact hy,hr⟩
   ·rename_i hi
    refine⟨h1 el (aB he),fun j x hj=>?_⟩;obtain⟨y,hy,hr⟩:=h2 _ el j x he hj;refine⟨y,?_,hr⟩;have:els0.length * k≤i * k:=bP _ (by omega);rw[bQ (by rw[hl0];omega),hl0,show i * k+j - els0.length * k=(i - els0.length) * k+j by rw[Nat.sub_mul];omega];exact hy
  obtain⟨g1,g2⟩:=key;refine⟨g1,fun j x hj=>?_⟩;obtain⟨y,hy,hr,ho⟩:=g2 j x hj;refine⟨y,?_,hr.on' le,ho⟩;simp only[Nat.zero_add];rw[Array.getElem?_append_left (by simpa using(aA.1 hy).1)];simpa using hy
theorem Ps (h:Sim E N st th z a w){T T' e t:TypeId}{i:TypeInfo}{v0 v2:Value}{sz bytes:Nat}{new:List (List AV)}{news:List Value}(hu:P.underlying T=some (.slice e))(hi1:P.info? e=some i)(hv0:i.zero=some v0)(hsz:i.size=sz)(hby':i.bytes=bytes)(hz0:v0.cells.size=sz)
  (hby:new.length * bytes≤140737488355328) (h63:new.length≤9223372036854775807) (hs:Src P sz T' v2 new.length news w) (hel: ∀e ∈ new,e.length=sz)
  (hcell: ∀(i:Nat)(e:List AV)(j:Nat)(x:AV),new[i]?=some e->e[j]?=some x-> ∃y,news[i * sz+j]?=some y/\Rep w z [] x y/\y.oneCell'=true):
  ∃v L w',(Builtin.append_ #[T,T'] t #[.slice none 0 0,v2]).run P w= .ok v w'/\Sim E N (Br st (.lst e sz new)) (th++[L]) z a w'/\Rep w' z (th++[L]) (.s st.n 0 new.length) v/\Ext w w'/\(L.ph=false->w.heap.size≤L.b):=by
 by_cases hn:new=[]
 ·subst hn
  have hnl:news=[]:=by have:=hs.newsLen;simpa using this
  subst hnl;exact⟨.slice none 0 0,_,w,run_append_nothing w T T' t e i hu hi1 none 0 0 (Nat.le_refl _) v2 (by rw[hsz];exact hs),h.know ⟨0,0,0,0,true⟩ _ (fun hp=>by cases hp) (fun _ _ _ _ _ _ hp=>by cases hp) (.inl ⟨rfl,rfl⟩) (.inl rfl),.sn _ _ 0 ⟨0,0,0,0,true⟩ (h.get_new _) rfl,Ext.refl w,fun hp=>by cases hp⟩
 ·have hpos:0<new.length:=cV.2 hn
  have hrun:=run_append_grow_src w T T' t e i v0 hu hi1 hv0 none 0 0 [] (run_firstCells_none _ _ _ _ _) v2 new.length news (by rw[hsz];exact hs) (by omega) (by omega) (by rw[hby'];exact growslice_fits (by omega) (by simpa using hby));have hS:=Jo h (e:=e) (k:=sz) (olds:=[]) (news:=news) (els0:=[]) (new:=new) (cap:=grownCap w (0+new.length) 0 e) v0.cells hz0 (by simpa using Fo w (0+new.length) 0 e) (fun i e he=>by simp at he) (by simp) hs.newsLen hel hcell;simp only[List.nil_append,List.length_nil,Nat.zero_add] at hS hrun;have:=Fo w new.length 0 e;exact⟨_,_,_,hrun,hS,.s _ _ 0 _ _ 0 ⟨w.heap.size,0,sz,grownCap w new.length 0 e,false⟩ (h.get_new _) rfl this (by simp) (fun _=>by simp),Df _ _,fun _=>Nat.le_refl _⟩
set_option maxRecDepth 10000 in
theorem Jd {T T' e t:TypeId}{i:TypeInfo}{v0:Value}{kd:IntKind}(hu:P.underlying T=some (.slice e))(hk:P.underlying T'=some (.int kd))(hi:P.info? e=some i)(hz:i.zero=some v0)(n:Nat)(hpos:0<n)(hs:0<i.size)(h63:(n:Int)≤9223372036854775807)(hb:n * i.bytes≤140737488355328):
  (Builtin.append_ #[T,T'] t #[.slice none 0 0,.int .i64 n]).run P w= .ok (.slice (some ⟨w.heap.size,0,none⟩) n (grownCap w n 0 e)) (w.drew.alloc (.cells (Builtin.zeroCells v0.cells n++Builtin.zeroCells v0.cells (grownCap w n 0 e - n)) e)):=by
 have hw:IntKind.i64.wrap (n:Int)=n:=gC n ⟨by omega,h63⟩
 have h0: ¬((n:Int)<0):=by omega
 have h1: ¬(281474976710656<(n:Int) * (i.bytes:Int)):=by
  have:(n:Int) * (i.bytes:Int)=((n * i.bytes:Nat):Int):=by simp
  rw[this];omega
 have h2: ¬n=0:=by omega
 have h3: ¬(n * i.size=0):=by
  intro h;rcases Nat.mul_eq_zero.1 h with h |h<;>omega
 have h4: ¬(9223372036854775807<(n:Int)):=by omega
 have h5: ¬(281474976710656<Builtin.nextslicecap n 0 * i.bytes):=by
  have:=growslice_fits (need:=n) (old:=0) hpos hb;omega
 simp[Builtin.append_,AD hu,AD hk,sizeOf,typeInfo,zeroValue,hi,hz,asInt,asIntOf,hw,h0,h1,h2,h3,h4,h5,Question.forced,newRow,grownCap,Builtin.firstCells]
theorem Kf (h:Sim E N st th z a w){T T' e t:TypeId}{y0:Nat}{y1:Nat}{y2:Option (List Value)}(hT:AK P T=some ⟨.slice e,y0,y1,y2⟩){i:TypeInfo}{v0 v1 v2:Value}{sz bytes n lo len:Nat}{els new:List (List AV)}{news:List Value}(hi1:P.info? e=some i)(hv0:i.zero=some v0)(hsize:i.size=sz)(hiby:i.bytes=bytes)(hz0:v0.cells.size=sz)(hsz:0<sz)
  (ho:lk st.o n=some (.lst e sz els)) (hle:lo+len≤els.length) (hby:(len+new.length) * bytes≤140737488355328) (h63:len+new.length≤9223372036854775807) (hr1:Rep w z th (.s n lo len) v1) (hs:Src P sz T' v2 new.length news w) (hel: ∀e ∈ new,e.length=sz)
  (hcell: ∀(i:Nat)(e:List AV)(j:Nat)(x:AV),new[i]?=some e->e[j]?=some x-> ∃y,news[i * sz+j]?=some y/\Rep w z [] x y/\y.oneCell'=true):
  ∃v L w',(Builtin.append_ #[T,T'] t #[v1,v2]).run P w= .ok v w'/\Sim E N (Br {st with o:=rm st.o n} (.lst e sz ((els.drop lo).take len++new))) (th++[L]) z a w'/\Rep w' z (th++[L]) (.s st.n 0 (len+new.length)) v/\ExtT th [n] w w'/\(L.ph=false->w.heap.size≤L.b\/ ∃M,th[n]?=some M/\M.ph=false/\L.b=M.b):=by
 have hu:=Aj hT rfl
 have hl0:((els.drop lo).take len).length=len:=by simp;omega
 have hsrc0:NA st sz (TK.slice e) (.s n lo len)=some ((els.drop lo).take len):=by
  simp only[NA,D1,ho];rw[if_pos ⟨trivial,hle⟩]
 obtain⟨olds,hs0,hel0,hcell0⟩:=Fb h hT hr1 hsz hsrc0;obtain⟨L,hL,hcase⟩:=hr1.s_inv;rw[hl0] at hs0;obtain⟨L',q1,hnd,g8⟩:=h.mem.nds _ _ ho;rw[hL] at q1;cases q1
 have hsub:Sim E N {st with o:=rm st.o n} th z a w:=h.sub rfl (fun i x hi=>by
  rw[Gw] at hi;split at hi
  ·cases hi
  ·exact hi) (fun _ _ h=>h)
 rcases hcase with ⟨hph,hl,rfl⟩ |⟨hph,c,o,hv1,hlc,hcap,hox⟩
 ·subst hl
  obtain⟨v,L2,w',q1,q2,q3,q4,q5⟩:=Ps hsub (t:=t) hu hi1 hv0 hsize hiby hz0 (by simpa using hby) (by simpa using h63) hs hel hcell;refine⟨v,L2,w',q1,?_,?_,q4.t,fun hp=> .inl (q5 hp)⟩
  ·simpa using q2
  ·simpa using q3
 subst hv1
 rcases hnd with ⟨hp',_⟩ |⟨_,cells,fr,g2,g3,g4,g5,g6,g7⟩
 ·rw[hph] at hp';cases hp'
 obtain⟨g8,g9,g10⟩:=g8 hph
 have hne: ∀i nd M,lk (rm st.o n) i=some nd->th[i]?=some M->M.ph=false->M.b≠L.b:=by
  intro i nd M hi hM hp hb;rw[Gw] at hi;split at hi
  ·cases hi
  ·rename_i hni;exact hni (h.mem.inj n i _ _ L M ho hi hL hM hph hp hb.symm)
 have hfree:FreeB E (rm st.o n) th z w L.b:=h.mem.freeB ho hL hph (fun i x hi=>by
  rw[Gw] at hi;split at hi
  ·cases hi
  ·exact hi)
 by_cases hroom:len+new.length≤c
 ·by_cases hc0:c=0
  ·have hl:len=0:=by omega
   have hnn:new=[]:=bV.1 (by omega);subst hnn
   have hnl:news=[]:=by have:=hs.newsLen;simpa using this
   subst hnl;refine⟨.slice (some ⟨L.b,o,none⟩) len c,_,w,run_append_nothing w T T' t e i hu hi1 _ len c hlc v2 (by rw[hsize];exact hs),hsub.know ⟨L.b,0,sz,0,false⟩ _ (fun _=>⟨g8,g9,g10⟩) (fun i nd M hi hM hp _=>hne i nd M hi hM hp) ?_ (.inr hfree),?_,(Ext.refl w).t,fun _=> .inr ⟨L,hL,hph,rfl⟩⟩
   ·subst hl
    exact .inr ⟨rfl,cells,fr,g2,g3,rfl,by simp,by simp,fun i e he=>by simp at he⟩
   ·exact .s _ _ 0 _ _ o ⟨L.b,0,sz,0,false⟩ (hsub.get_new _) rfl (by simp;omega) (by simp;omega) (fun hh=>by omega)
  ·have ho':=hox (by omega)
   subst ho'
   have hbound:L.o+lo * L.k+c * L.k≤cells.size:=by
    have:(lo+c) * L.k≤L.cap * L.k:=bP _ hcap;rw[bJ] at this;omega
   have hk2:L.k=sz:=g4;have hnl:news.length=new.length * sz:=hs.newsLen
   have hin:L.o+lo * L.k+len * sz+news.length≤cells.size:=by
    have:(len+new.length) * sz≤c * sz:=bP _ hroom;rw[bJ] at this;rw[hk2] at hbound ⊢;omega
   have hrun:=run_append_room_src w T T' t e i hu hi1 L.b (L.o+lo * L.k) len c v2 new.length news (by rw[hsize];exact hs) hroom (fun j hj=>by
    rw[Bj g2,hsize];simp[show L.o+lo * L.k+len * sz+j<cells.size by omega]) (fun j hj=>by
    rw[hsize];exact Ny g2 g3 (by omega))
   rw[hsize] at hrun;obtain⟨q1,q2,q3⟩:=DB L.b news (L.o+lo * L.k+len * sz) w cells e fr g2;have le:Le w z (w.setCells L.b (L.o+lo * L.k+len * sz) news) z:=⟨fun _ _ h=>h,fun t b hb=>q2 b (fun e=>by subst e;exact g9 t hb)⟩;have hoth:=hsub.other (Bh _ _ _ _) q1 q2 g9 hne g10 hfree
   have hfree2:=hfree.other (fun i T k els op M hi hM=>by
    obtain⟨M',k1,k2,_⟩:=hsub.mem.nds i _ hi;rw[hM] at k1;cases k1
    exact k2.ul_nil.imp id (fun hp=>hne i _ M hi hM hp)) q1 q2 g9
   refine⟨_,_,_,hrun,hoth.know ⟨L.b,L.o+lo * L.k,sz,c,false⟩ _ (fun _=>⟨by rw[q1];exact g8,g9,g10⟩) (fun i nd M hi hM hp _=>hne i nd M hi hM hp) ?_ (.inr hfree2),?_,⟨eL q1.symm,fun b _ hne=>q2 b (fun e=>hne n (by simp) L hL hph e.symm),Bh _ _ _ _⟩,fun _=> .inr ⟨L,hL,hph,rfl⟩⟩
   ·refine .inr ⟨rfl,_,fr,q3,fun i hi=>by rw[C5] at hi;exact g3 i hi,rfl,by rw[C5];show L.o+lo * L.k+c * sz≤cells.size;rw[<-hk2];exact hbound,by rw[List.length_append,hl0];exact hroom,fun i el hi=>?_⟩
    rw[gL,hl0] at hi;simp only
    have hidx: ∀j,(E1 cells (L.o+lo * L.k+len * sz) news)[L.o+lo * L.k+i * sz+j]?=if len≤i/\(i - len) * sz+j<news.length then news[(i - len) * sz+j]? else if len≤i then cells[L.o+lo * L.k+i * sz+j]? else (E1 cells (L.o+lo * L.k+len * sz) news)[L.o+lo * L.k+i * sz+j]?:=by
     intro j;split
     ·rename_i hh
      have:len * sz≤i * sz:=bP _ hh.1;have e1:(i - len) * sz=i * sz - len * sz:=Nat.sub_mul _ _ _;rw[CP _ _ _ hin,if_pos (by omega)]
      congr 1;omega
     ·split
      ·rename_i hh h2
       have:len * sz≤i * sz:=bP _ h2;have e1:(i - len) * sz=i * sz - len * sz:=Nat.sub_mul _ _ _;rw[CP _ _ _ hin,if_neg (by omega)]
      ·rfl
    split at hi
    ·rename_i hlt
     rw[bM hlt,bI] at hi;obtain⟨p1,p2⟩:=g7 _ _ hi;refine⟨p1.trans hk2,fun j x hj=>?_⟩;obtain⟨u,hu,hru,h1u⟩:=p2 j x hj
     have hjk:j<sz:=by rw[<-hk2,<-p1];exact(aA.1 hj).1
     refine⟨u,?_,hru.on' le,h1u⟩;have:(i+1) * sz≤len * sz:=bP _ hlt;rw[bJ] at this;rw[CP _ _ _ hin,if_neg (by omega),show L.o+lo * L.k+i * sz+j=L.o+(lo+i) * L.k+j by rw[bJ,hk2];omega];exact hu
    ·rename_i hge
     refine⟨hel el (aB hi),fun j x hj=>?_⟩;obtain⟨u,hu,hru,h1u⟩:=hcell _ el j x hi hj;refine⟨u,?_,hru.on' le,h1u⟩;rw[hidx,if_pos ⟨by omega,(aA.1 hu).1⟩];exact hu
   ·exact .s _ _ 0 _ _ _ ⟨L.b,L.o+lo * L.k,sz,c,false⟩ (hoth.get_new _) rfl hroom (by simp) (fun _=>by simp)
 ·have hrun:=run_append_grow_src w T T' t e i v0 hu hi1 hv0 (some ⟨L.b,o,none⟩) len c olds (by rw[hsize];exact hs0.cellsD) v2 new.length news (by rw[hsize];exact hs) (by omega) (by omega) (by rw[hiby];exact growslice_fits (by omega) hby)
  have hS:=Jo hsub (e:=e) (k:=sz) (olds:=olds) (news:=news) (els0:=(els.drop lo).take len) (new:=new) (cap:=grownCap w (len+new.length) c e) v0.cells hz0 (by rw[hl0];exact Fo w _ _ _) (fun i el he=>⟨hel0 el (aB he),fun j x hj=>hcell0 i el j x he hj⟩) (by rw[hl0];exact hs0.newsLen) hs.newsLen hel hcell;rw[hl0] at hS;refine⟨_,_,_,hrun,hS,?_,(Df _ _).t,fun _=> .inl (Nat.le_refl _)⟩;exact .s _ _ 0 _ _ 0 _ (hsub.get_new _) rfl (Fo w _ _ _) (by simp) (fun _=>by simp)
theorem Ry (h:Sim E N st th z a w){args:Array Operand}{ats:Array TypeId}{d:Option Nat}{t:TypeId}{pos:String}{aft:Array Edge}{g:Option (Nat×Bool)}{k:AV->AS->Prop}(hk:S2 P E.G st (.call {callee:= .builtin .append,args:=args,argTypes:=ats}) k):
  OF P E N ⟨d,.call {callee:= .builtin .append,args:=args,argTypes:=ats},t,pos,aft,g⟩ a w th (G_ st E.G (.call {callee:= .builtin .append,args:=args,argTypes:=ats})) st.m k false:=by
 obtain⟨args⟩:=args;obtain⟨ats⟩:=ats;simp only[S2] at hk
 cases hzz:JS P E.G st ⟨args⟩ ⟨ats⟩ with
 |some r=>
  obtain⟨c,v,s⟩:=r;simp only[hzz] at hk;unfold JS at hzz;split at hzz
  ·rename_i T T' ha
   simp only at ha;subst ha;split at hzz
   ·rename_i kd s2 b2 z2 hT'
    split at hzz
    ·rename_i e s1 b1 z1 n hT he
     split at hzz
     ·rename_i kk sz bytes zs hTe
      simp only[aM,cH] at hzz;obtain⟨rfl,rfl,rfl⟩:=hzz;obtain⟨⟨hpos,h63,hb,hsz,hzl,hz1⟩,hk⟩:=hk;obtain⟨i,dd,hi1,hi2,hi3⟩:=BE hTe;simp only[TY.mk.injEq] at hi3;obtain⟨_,hisz,hiby,hiz⟩:=hi3;obtain⟨v0,hv0,hv0'⟩:=aF.1 hiz.symm;obtain⟨v1,r1,hargs,hr1,hrest⟩:=(Bo h he).head;obtain⟨v2,r2,rfl,hr2,hrest2⟩:=hrest.head;obtain rfl:=hrest2.of_nil;obtain rfl:=hr1.r_inv;obtain rfl:=hr2.r_inv
      have hz0:v0.cells.size=sz:=by rw[<-hzl,<-hv0'];simp
      have hnn:(n.toNat:Int)=n:=by omega
      have hrun:=Jd (w:=w) (t:=t) (Aj hT rfl) (ER hT' rfl) hi1 hv0 n.toNat (by omega) (by omega) (by omega) (by
       have h1:((n.toNat * bytes:Nat):Int)≤140737488355328:=by rw[Int.natCast_mul,hnn];exact hb
       rw[<-hiby];omega)
      rw[hnn] at hrun
      have hlen:(Builtin.zeroCells v0.cells n.toNat).toList.length=n.toNat * sz:=by rw[cT,F_,hz0]
      have hcell: ∀(i:Nat)(e:List AV),(List.replicate n.toNat (zs.map AV.r))[i]?=some e->e.length=sz/\ ∀(j:Nat)(x:AV),e[j]?=some x-> ∃y,(Builtin.zeroCells v0.cells n.toNat).toList[i * sz+j]?=some y/\Rep w z [] x y/\y.oneCell'=true:=by
       intro i el he
       have hi:i<n.toNat:=by have:=(aA.1 he).1;simpa using this
       rw[List.getElem?_replicate,if_pos hi] at he;cases he;refine⟨by simpa using hzl,fun j x hj=>?_⟩;simp only[List.getElem?_map,aF] at hj;obtain⟨u,hu,rfl⟩:=hj
       have hj:j<sz:=by rw[<-hzl];exact(aA.1 hu).1
       have hlt:i * sz+j<n.toNat * sz:=by
        have:(i+1) * sz≤n.toNat * sz:=bP _ hi;rw[bJ] at this;omega
       refine⟨u,?_,.r _ _,bS.1 hz1 u (aB hu)⟩;rw[bW];unfold Builtin.zeroCells;rw[hz0,Array.getElem?_map,Array.getElem?_eq_getElem (by simpa using hlt)];simp only[Array.getElem_range,Option.map_some,aM];rw[show(i * sz+j) % sz=j by rw[Nat.mul_comm,Nat.mul_add_mod,fI hj]]
       have:v0.cells[j]?=some u:=by rw[<-hv0'] at hu;simpa using hu
       obtain⟨hlt',hg⟩:=bR.1 this;rw[getElem!_pos v0.cells j hlt'];exact hg
      have hS:=Jo h (e:=e) (k:=sz) (olds:=[]) (news:=(Builtin.zeroCells v0.cells n.toNat).toList) (els0:=[]) (new:=List.replicate n.toNat (zs.map AV.r)) (cap:=grownCap w n.toNat 0 e) v0.cells hz0 (by simpa using Fo w n.toNat 0 e) (fun i e he=>by simp at he) (by simp) (by simpa using hlen) (fun e he=>by
       obtain⟨i,hi⟩:=aO.1 he
       exact(hcell i e hi).1) (fun i e j x he hx=>(hcell i e he).2 j x hx)
      simp only[List.nil_append,List.length_nil,Nat.zero_add,List.length_replicate] at hS;have hcap:=Fo w n.toNat 0 e;refine⟨.slice (some ⟨w.heap.size,0,none⟩) n.toNat (grownCap w n.toNat 0 e),_,_,_,z,_,.inl ?_,hk,hS,.s _ _ 0 _ _ 0 ⟨w.heap.size,0,sz,grownCap w n.toNat 0 e,false⟩ (h.get_new _) rfl hcap (by simp) (fun _=>by simp),rfl,(fun h=>by cases h),BX _ _,(Df _ _).t⟩;simp only[execOp,resolve,invoke,builtin,aQ,bT,aL]
      have he2:(Array.map a.eval args.toArray)= #[.slice none 0 0,.int .i64 n]:=by simpa using hargs
      rw[he2,hrun];rfl
     ·cases hzz
    ·cases hzz
   ·cases hzz
  ·cases hzz
 |none=>
 simp only[hzz] at hk;split at hk
 ·rename_i b x T T' he
  obtain⟨v1,r1,hargs,hr1,hrest⟩:=(Bo h he).head;obtain⟨v2,r2,rfl,hr2,hrest2⟩:=hrest.head;obtain rfl:=hrest2.of_nil
  have hexec: ∀(v:Value)(w':World),(Builtin.append_ #[T,T'] t #[v1,v2]).run P w= .ok v w'->(execOp a.eval ⟨d,.call {callee:= .builtin .append,args:=args.toArray,argTypes:= #[T,T']},t,pos,aft,g⟩).run P w= .ok (.value v) w':=by
   intro v w' hv;simp only[execOp,resolve,invoke,builtin,aQ,bT,aL]
   have he2:(Array.map a.eval args.toArray)= #[v1,v2]:=by simpa using hargs
   rw[he2,hv];rfl
  split at hk
  ·rename_i e s1 b1 z1 y' hT hT'
   split at hk
   ·rename_i kk sz bytes zs hTe
    obtain⟨i,dd,hi1,hi2,hi3⟩:=BE hTe;simp only[TY.mk.injEq] at hi3;obtain⟨_,hisz,hiby,hiz⟩:=hi3;obtain⟨v0,hv0,hv0'⟩:=aF.1 hiz.symm;have hu:=Aj hT rfl;split at hk
    ·rename_i new hnew
     split at hk
     ·obtain rfl:=hr1.r_inv
      obtain⟨⟨hzl,hsz,hby,h63⟩,hk⟩:=hk;obtain⟨news,hs,hel,hcell⟩:=Fb h hT' hr2 hsz hnew
      have hz0:v0.cells.size=sz:=by rw[<-hzl,<-hv0'];simp
      obtain⟨v,L,w',g1,g2,g3,g4,_⟩:=Ps h (t:=t) hu hi1 hv0 hisz.symm hiby.symm hz0 hby h63 hs hel hcell;exact⟨v,_,_,_,z,w',.inl (hexec _ _ g1),hk,g2,g3,rfl,(fun h=>by cases h),BX _ _,g4.t⟩
     ·rename_i n lo len
      have hts:G_ st E.G (.call {callee:= .builtin .append,args:=args.toArray,argTypes:=[T,T'].toArray})=[n]:=by simp only[G_,he]
      split at hk
      ·rename_i T2 k' els ho
       obtain⟨⟨hT2,hzl,hkk,hsz,hle,hby,h63⟩,hk⟩:=hk;have hT2:=hT2.symm;subst hT2;subst hkk;obtain⟨news,hs,hel,hcell⟩:=Fb h hT' hr2 hsz hnew;obtain⟨v,L,w',g1,g2,g3,g4,_⟩:=Kf h (t:=t) hT hi1 hv0 hisz.symm hiby.symm (by rw[<-hzl,<-hv0'];simp) hsz ho hle hby h63 hr1 hs hel hcell;rw[hts];exact⟨v,_,_,_,z,w',.inl (hexec _ _ g1),hk,g2,g3,rfl,(fun h=>by cases h),BX _ _,g4⟩
      ·exact hk.elim
     ·exact hk.elim
    ·exact hk.elim
   ·exact hk.elim
  ·exact hk.elim
 ·exact hk.elim
theorem UZ (h:Sim E N st th z a w){args:Array Operand}{ats:Array TypeId}{d:Option Nat}{t:TypeId}{pos:String}{aft:Array Edge}{g:Option (Nat×Bool)}{k:AV->AS->Prop}(hk:S2 P E.G st (.call {callee:= .builtin .clear,args:=args,argTypes:=ats}) k):
  OF P E N ⟨d,.call {callee:= .builtin .clear,args:=args,argTypes:=ats},t,pos,aft,g⟩ a w th (G_ st E.G (.call {callee:= .builtin .clear,args:=args,argTypes:=ats})) st.m k false:=by
 exact hk.elim
end
mutual
def IN (st:AS):AV->Option (AV×AS)
 | .s n lo len=>match lk st.o n with
   |some (.lst _ k els)=>if lo+len≤els.length then some (.ro true k ((els.drop lo).take len),{st with o:=rm st.o n}) else none
   |some (.ul _ _ _ _)=>some (.s n lo len,st)
   |_=>none
 | .r v=>some (.r v,st)
 | .ro t k els=>some (.ro t k els,st)
 | .re t c off=>some (.re t c off,st)
 | .agg c=>match MJ st c with
   |some (c',st')=>some (.agg c',st')
   |none=>none
 |_=>none
def MJ (st:AS):List AV->Option (List AV×AS)
 | []=>some ([],st)
 |x::r=>match IN st x with
  |none=>none
  |some (x',st1)=>match MJ st1 r with
   |none=>none
   |some (r',st2)=>some (x'::r',st2)
end
def IM:List AV->Option (List AV)
 | []=>some []
 | .r v::r=>(IM r).map (.r v:: ·)
 | .ro t k els::r=>(IM r).map (.ro t k els:: ·)
 | .re t c off::r=>(IM r).map (.re t c off:: ·)
 | .s _ _ _::r=>(IM r).map (.any:: ·)
 |_::_=>none
def EV (i:Nat):Nat->List AV->List (Nat×Nat×AV)
 |_,[]=>[]
 |j,.s n lo len::r=>(i,j,.s n lo len)::EV i (j+1) r
 |j,_::r=>EV i (j+1) r
def Sf:List (Nat×Nat×AV)->Nat->Nat->Nat->List (Nat×Nat×AV)
 | [],_,_,_=>[]
 |(a,b,x)::r,i,j,n=>if a=i/\j≤b/\b<j+n then Sf r i j n else (a,b,x)::Sf r i j n
def QT (sz:Nat):Nat->List Nat->List AV->Option (List (List AV)×List (Nat×Nat×AV))
 |_,[],[]=>some ([],[])
 |i,j::is,x::r=>if j=i/\x.cells.length=sz/\x.okPart=true/\x.cells.all AV.cell1=true then match IM x.cells,QT sz (i+1) is r with
   |some c,some (els,op)=>some (c::els,EV i 0 x.cells++op)
   |_,_=>none
  else none
 |_,_,_=>none
def Yg (d:Nat)(op:List (Nat×Nat×AV)):List (Nat×Nat×AV):=op.map fun p=>(p.1+d,p.2)
def WQ (st:AS)(e sz:Nat):AV->Option (List (List AV)×Nat)
 | .s n 0 len=>match lk st.o n with
   |some (.ul T k els [])=>if T=e/\k=sz/\len=els.length then some (els,n) else none
   |_=>none
 |_=>none
def Ye (st:AS)(sz:Nat):AV->Option (List (List AV)×List (Nat×Nat×AV)×Option Nat)
 | .s m lo len=>match lk st.o m with
   |some (.ul _ k els op)=>if lo=0/\k=sz/\len=els.length then some (els,op,some m) else none
   |_=>(D1 st sz (.s m lo len)).map fun els=>(els,[],none)
 |x=>(D1 st sz x).map fun els=>(els,[],none)
def Zp (o:List (Nat×Nd)):Option Nat->List (Nat×Nd)
 |some m=>rm o m
 |none=>o
def RK (l:List Int)(v:Int):List Int:=bif l.contains v then l else l++[v]
def Z1 (P:Program)(st:AS):Option TY->Option AV->Option AV->Option AV->Option (Prop×AV×AS)
 |some ⟨.map k _,_,_,_⟩,some (.q n),some (.r (.int .i64 v)),some (.agg [])=>match AK P k,lk st.o n with
  |some ⟨.int .i64,_,_,_⟩,some (.mp l)=>some (True,.r (.tuple #[]),C4 st n (.mp (RK l v)))
  |_,_=>none
 |_,_,_,_=>none
def R6 (st:AS):Option TY->Option AV->Option AV->Option (Prop×AV×AS)
 |some y,some (.p n i off),some v=>match lk st.o n with
  |some (.ul T k els op)=>match els[i]?,IM v.cells with
   |some e,some c=>some ((v.cells.length=y.size/\off+y.size≤e.length/\v.okPart=true/\v.cells.all AV.cell1=true),.r (.tuple #[]),C4 st n (.ul T k (els.set i (splice e off c)) (EV i off v.cells++Sf op i off v.cells.length)))
   |_,_=>none
  |_=>none
 |_,_,_=>none
def SH (P:Program)(st:AS)(len:Nat)(is:List Nat):Option TY->Option (List AV)->Option (Prop×AV×AS)
 |some ⟨.slice e,_,_,_⟩,some c=>match AK P e,MJ st c with
  |some ⟨_,sz,_,some _⟩,some (c',st')=>match QT sz 0 is c' with
   |some (els,op)=>some ((len=els.length/\len * sz≤16777216),.s st'.n 0 len,Br st' (.ul e sz els op))
   |none=>none
  |_,_=>none
 |_,_=>none
def Za (P:Program)(st:AS):Option (List AV)->List TypeId->Option (Prop×AV×AS)
 |some [b,x],[T,T']=>match AK P T,AK P T' with
  |some ⟨.slice e,_,_,_⟩,some ⟨.slice _,_,_,_⟩=>match AK P e with
   |some ⟨_,sz,bytes,some zs⟩=>match WQ st e sz b,Ye st sz x with
    |some (els,n),some (els2,op2,ms)=>some ((zs.length=sz/\0<sz/\(els.length+els2.length) * bytes≤140737488355328/\els.length+els2.length≤9223372036854775807/\ms≠some n),.s st.n 0 (els.length+els2.length),Br {st with o:=rm (Zp st.o ms) n} (.ul e sz (els++els2) (Yg els.length op2)))
    |_,_=>none
   |_=>none
  |_,_=>none
 |_,_=>none
def FY (P:Program)(G:List (Nat×List Value))(st:AS):Op->Option (Prop×AV×AS)
 | .store T x v=>R6 st (AK P T) (ev st G x) (ev st G v)
 | .buildSlice T len parts=>SH P st len (parts.toList.map (·.1)) (AK P T) (FV st G (parts.toList.map (·.2)))
 | .call {callee:= .builtin .append,args,argTypes}=>Za P st (FV st G args.toList) argTypes.toList
 | .makeMap T none=>some (True,.q st.n,Br st (.mp []))
 | .mapUpdate T m k x=>Z1 P st (AK P T) (ev st G m) (ev st G k) (ev st G x)
 |_=>none
section
variable {P:Program} {E:Env} {N:Nat} {st:AS} {th:List NLoc} {z:AO} {a:Act} {w:World} {o:List (Nat×Nd)} {n:Nat}
mutual
theorem Rl: ∀(x:AV){st st':AS}{z:AO}{v:Value}{x':AV},Sim E N st th z a w->Rep w z th x v->IN st x=some (x',st')->
  ∃z',(∀t b,z t b->z' t b)/\Sim E N st' th z' a w/\Rep w z' th x' v/\st'.m=st.m/\st'.n=st.n
 | .s i lo len,st,st',z,v,x',h,hr,hq=>by
   simp only[IN] at hq;split at hq
   ·rename_i T k els hi
    split at hq
    ·rename_i hle;cases hq
     obtain⟨L,h1,h2,h3⟩:=h.mem.nds i _ hi;exact⟨_,fun _ _ h=> .inl h,h.freeze hi h1,(hr.seen h1 h2 hle (fun hp=> .inr ⟨rfl,hp,rfl⟩) (fun _ _ h=> .inl h) []:Rep w _ [] _ _).pure th,rfl,rfl⟩
    ·cases hq
   ·cases hq
    exact⟨z,fun _ _ h=>h,h,hr,rfl,rfl⟩
   ·cases hq
 | .r u,st,st',z,v,x',h,hr,hq=>by
   simp only[IN] at hq;cases hq;exact⟨z,fun _ _ h=>h,h,hr,rfl,rfl⟩
 | .ro t k els,st,st',z,v,x',h,hr,hq=>by
   simp only[IN] at hq;cases hq;exact⟨z,fun _ _ h=>h,h,hr,rfl,rfl⟩
 | .re t c off,st,st',z,v,x',h,hr,hq=>by
   simp only[IN] at hq;cases hq;exact⟨z,fun _ _ h=>h,h,hr,rfl,rfl⟩
 | .agg c,st,st',z,v,x',h,hr,hq=>by
   simp only[IN] at hq;split at hq
   ·rename_i c' st1 hc;cases hq
    obtain⟨ys,rfl,hc'⟩:=hr.agg_inv;obtain⟨z',hz,hs,hr',hm,hn⟩:=H0 c h hc' hc;exact⟨z',hz,hs,.agg _ _ _ hr'.1 hr'.2,hm,hn⟩
   ·cases hq
 | .p _ _ _,_,_,_,_,_,_,_,hq=>by simp[IN] at hq
 | .tup _,_,_,_,_,_,_,_,hq=>by simp[IN] at hq
 | .fn _ _,_,_,_,_,_,_,_,hq=>by simp[IN] at hq
 | .ifc _ _,_,_,_,_,_,_,_,hq=>by simp[IN] at hq
 | .q _,_,_,_,_,_,_,_,hq=>by simp[IN] at hq
 | .u _ _ _,_,_,_,_,_,_,_,hq=>by simp[IN] at hq
 | .any,_,_,_,_,_,_,_,hq=>by simp[IN] at hq
theorem H0: ∀(c:List AV){st st':AS}{z:AO}{ys:List Value}{c':List AV},Sim E N st th z a w->Reps w z th c ys->MJ st c=some (c',st')->
  ∃z',(∀t b,z t b->z' t b)/\Sim E N st' th z' a w/\Reps w z' th c' ys/\st'.m=st.m/\st'.n=st.n
 | [],st,st',z,ys,c',h,hr,hq=>by
   simp only[MJ] at hq;cases hq;obtain rfl:=hr.of_nil;exact⟨z,fun _ _ h=>h,h,.nil,rfl,rfl⟩
 |x::r,st,st',z,ys,c',h,hr,hq=>by
  simp only[MJ] at hq;split at hq
  ·cases hq
  ·rename_i x1 st1 hx
   split at hq
   ·cases hq
   ·rename_i r1 st2 hr1;cases hq
    obtain⟨y,ys',rfl,hy,hys⟩:=hr.head;obtain⟨z1,hz1,hs1,hr1',hm1,hn1⟩:=Rl x h hy hx;obtain⟨z2,hz2,hs2,hr2',hm2,hn2⟩:=H0 r hs1 (by simpa using hys.on ⟨hz1,fun _ _ _=>rfl⟩ []) hr1;exact⟨z2,fun t b hb=>hz2 t b (hz1 t b hb),hs2,.cons (hr1'.on' ⟨hz2,fun _ _ _=>rfl⟩) hr2',hm2.trans hm1,hn2.trans hn1⟩
end
theorem Rep.gnd {x:AV}{v:Value}(hr:Rep w z th x v)(hg:(∃u,x= .r u)\/(∃t k els,x= .ro t k els)\/ ∃t c off,x= .re t c off):Rep w z [] x v:=by
 cases hr with
 |r _ v=>exact .r _ _
 |nil _ t k a c=>exact .nil _ _ _ _ _
 |ro _ t k els b o c ys hz hc hk hy h1 hx=>exact .ro _ _ _ _ b o c ys hz hc hk hy h1 hx
 |re _ t c b o off ys hz hy hx=>exact .re _ _ _ b o _ ys hz hy hx
 |_=>rcases hg with ⟨_,h⟩ |⟨_,_,_,h⟩ |⟨_,_,_,h⟩<;>cases h
theorem Of: ∀ {c c':List AV},IM c=some c'->c'.length=c.length
 | [],c',h=>by simp only[IM,aM] at h;subst h;rfl
 |x::r,c',h=>by
  cases x<;>simp only[IM,aF] at h<;>first
   |(cases h;done)
   |(obtain⟨r',h1,rfl⟩:=h;simp[Of h1])
theorem M9 {f:Nat->Prop}{i:Nat}: ∀ {c c':List AV}{ys:List Value}{j0:Nat},IM c=some c'->Reps w z th c ys-> ∀(j:Nat)(x:AV),c'[j]?=some x-> ∃y,ys[j]?=some y/\CellU w z th f (EV i j0 c) i (j0+j) x y
 | [],c',ys,j0,h,hr,j,x,hx=>by simp only[IM,aM] at h;subst h;simp at hx
 |u::r,c',ys,j0,h,hr,j,x,hx=>by
  obtain⟨y,ys',rfl,hy,hys⟩:=hr.head
  have low: ∀(r:List AV)(s k:Nat),k<s->F0 (EV i s r) i k=none:=by
   intro r
   induction r with
   |nil=>intro s k _;simp[EV,F0]
   |cons u r ih=>
    intro s k hk
    cases u<;>simp only[EV,F0]<;>first
     |exact ih _ _ (by omega)
     |(rw[if_neg (by omega)];exact ih _ _ (by omega))
  have ih: ∀ {c1:List AV},IM r=some c1-> ∀(j:Nat)(x:AV),c1[j]?=some x-> ∃y,ys'[j]?=some y/\CellU w z th f (EV i (j0+1) r) i (j0+1+j) x y:=fun h1 j x hx=>M9 h1 hys j x hx
  have gnd:((∃u',u= .r u')\/(∃t k els,u= .ro t k els)\/ ∃t c off,u= .re t c off)->(∃c1,IM r=some c1/\c'=u::c1)->EV i j0 (u::r)=EV i (j0+1) r-> ∃y',(y::ys')[j]?=some y'/\CellU w z th f (EV i j0 (u::r)) i (j0+j) x y':=by
   rintro hg ⟨c1,h1,rfl⟩ he;rw[he]
   cases j with
   |zero=>
    simp at hx;subst hx;refine⟨y,rfl,?_⟩;unfold CellU;rw[low r (j0+1) (j0+0) (by omega)];exact .r _ _ _ (hy.gnd hg)
   |succ j=>
    obtain⟨y',h2,h3⟩:=ih h1 j x (by simpa using hx);exact⟨y',by simpa using h2,by rw[show j0+(j+1)=j0+1+j by omega];exact h3⟩
  cases u<;>simp only[IM,aF] at h
  case r v=>obtain⟨c1,h1,rfl⟩:=h;exact gnd (.inl ⟨_,rfl⟩) ⟨_,h1,rfl⟩ rfl
  case ro t k els=>obtain⟨c1,h1,rfl⟩:=h;exact gnd (.inr (.inl ⟨_,_,_,rfl⟩)) ⟨_,h1,rfl⟩ rfl
  case re t c off=>obtain⟨c1,h1,rfl⟩:=h;exact gnd (.inr (.inr ⟨_,_,_,rfl⟩)) ⟨_,h1,rfl⟩ rfl
  case s n lo len=>
   obtain⟨c1,h1,rfl⟩:=h
   cases j with
   |zero=>
    refine⟨y,rfl,?_⟩;simp only[CellU,EV,F0,Nat.add_zero,and_self,if_true];exact hy
   |succ j=>
    obtain⟨y',h2,h3⟩:=ih h1 j x (by simpa using hx);refine⟨y',by simpa using h2,?_⟩;rw[show j0+(j+1)=j0+1+j by omega];unfold CellU at h3 ⊢;simp only[EV,F0];rw[if_neg (by omega)];exact h3
  all_goals cases h
theorem Dr: ∀(a b:List (Nat×Nat×AV))(i j:Nat),F0 (a++b) i j=match F0 a i j with |some x=>some x |none=>F0 b i j
 | [],b,i,j=>rfl
 |(p,q,x)::r,b,i,j=>by
  simp only[List.cons_append,F0];split
  ·rfl
  ·exact Dr r b i j
theorem Gm {i:Nat}: ∀(c:List AV)(j0 i' j:Nat),i'≠i->F0 (EV i j0 c) i' j=none
 | [],j0,i',j,h=>by simp[EV,F0]
 |u::r,j0,i',j,h=>by
  cases u<;>simp only[EV,F0]<;>first
   |exact Gm r _ _ _ h
   |(rw[if_neg (fun e=>h e.1.symm)];exact Gm r _ _ _ h)
theorem IJ {i:Nat}: ∀(c:List AV)(j0 j:Nat),(j<j0\/j0+c.length≤j)->F0 (EV i j0 c) i j=none
 | [],j0,j,h=>by simp[EV,F0]
 |u::r,j0,j,h=>by
  simp only[List.length_cons] at h
  cases u<;>simp only[EV,F0]<;>first
   |exact IJ r _ _ (by omega)
   |(rw[if_neg (by omega)];exact IJ r _ _ (by omega))
def exA:Value->AV
 | .agg ys=> .agg (ys.toList.map .r)
 |v=> .r v
theorem Xd (v:Value):Rep w z [] (exA v) v:=by
 cases v<;>first
  |exact .r _ _
  |(rename_i ys;have:=Rep.agg (w:=w) (z:=z) [] (ys.toList.map AV.r) ys.toList (by simp) (fun i x y h1 h2=>by
   rw[List.getElem?_map,h2] at h1;simp at h1;subst h1;exact .r _ _);simpa[exA] using this)
theorem Jw (v:Value):(exA v).cells=v.cells.toList.map .r:=by cases v<;>rfl
theorem ZI (v:Value):(exA v).okPart=true:=by cases v<;>rfl
theorem A0c {u:Value}(h:u.oneCell'=true):(AV.r u).cell1=true:=by cases u<;>first |rfl |(simp[Value.oneCell'] at h)
theorem O7 {sz:Nat}: ∀(is:List Nat)(c:List AV)(i:Nat)(vs:List Value)(els:List (List AV))(op:List (Nat×Nat×AV)),QT sz i is c=some (els,op)->Reps w z th c vs->
  ∃xls,JF sz i is (vs.map exA)=some xls/\xls.length=els.length/\(∀(q:Nat)(e:List AV),els[q]?=some e->e.length=sz/\ ∃ys:List Value,xls[q]?=some (ys.map .r)/\(∀u ∈ ys,u.oneCell'=true)/\ ∀(j:Nat)(x:AV),e[j]?=some x-> ∃y,ys[j]?=some y/\ ∀f,CellU w z th f op (i+q) j x y)/\ ∀i' j,i'<i->F0 op i' j=none
 | [],[],i,vs,els,op,h,hr=>by
   simp only[QT,aM,cH] at h;obtain⟨rfl,rfl⟩:=h;obtain rfl:=hr.of_nil;exact⟨[],rfl,rfl,fun q e h=>by simp at h,fun i' j _=>rfl⟩
 |j::is,x::r,i,vs,els,op,h,hr=>by
  simp only[QT] at h;split at h
  ·rename_i hc;obtain⟨rfl,h2,h3,h4⟩:=hc
   split at h
   ·rename_i c els' op' hl hE
    simp only[aM,cH] at h;obtain⟨rfl,rfl⟩:=h;obtain⟨v,vs',rfl,hv,hvs⟩:=hr.head;obtain⟨xls,g1,g2,g3,g4⟩:=O7 is r (j+1) vs' els' op' hE hvs;have hcells:=CS hv h3;have hone:=HV hv h3 h4
    have hsz:v.cells.toList.length=sz:=by rw[hcells.1,h2]
    refine⟨v.cells.toList.map .r::xls,?_,by simp[g2],fun q e hq=>?_,fun i' j' hi=>?_⟩
    ·simp only[List.map_cons,JF]
     rw[if_pos ⟨trivial,by rw[Jw];simpa using hsz,ZI v,by
      rw[Jw];refine bS.2 fun x hx=>?_;obtain⟨u,hu,rfl⟩:=cI.1 hx
      exact A0c (hone u hu)⟩,g1,Jw]
     rfl
    ·cases q with
     |zero=>
      simp at hq;subst hq;refine⟨by rw[Of hl,h2],v.cells.toList,rfl,hone,fun k x hx=>?_⟩;have key: ∀f,∃y,v.cells.toList[k]?=some y/\CellU w z th f (EV j 0 _) j (0+k) x y:=fun f=>M9 (f:=f) (i:=j) (j0:=0) hl hcells k x hx;obtain⟨y,hy,_⟩:=key (fun _=>False);refine⟨y,hy,fun f=>?_⟩;obtain⟨y',hy',hcu⟩:=key f;rw[hy] at hy';cases hy';rw[Nat.zero_add] at hcu;unfold CellU at hcu ⊢;rw[Nat.add_zero,Dr];split at hcu
      ·rename_i x' hx';first |exact hcu |(rw[hx'];exact hcu)
      ·rename_i hx';first |(rw[hx'];simp only;rw[g4 j k (by omega)];exact hcu) |(rw[g4 j k (by omega)];exact hcu) |(simp only[g4 j k (by omega)];exact hcu)
     |succ q=>
      obtain⟨k1,ys,k2,k3,k4⟩:=g3 q e (by simpa using hq);refine⟨k1,ys,by simpa using k2,k3,fun k x hx=>?_⟩;obtain⟨y,hy,hcu⟩:=k4 k x hx;refine⟨y,hy,fun f=>?_⟩;have hcu:=hcu f;unfold CellU at hcu ⊢;rw[Dr,Gm _ _ _ _ (by omega),show j+(q+1)=j+1+q by omega];exact hcu
    ·rw[Dr,Gm _ _ _ _ (by omega)]
     exact g4 i' j' (by omega)
   ·cases h
  ·cases h
 | [],_::_,_,_,_,_,h,_=>by simp[QT] at h
 |_::_,[],_,_,_,_,h,_=>by simp[QT] at h
theorem Mem.say (h:Mem E o n th z w){i:Nat}{nd nd':Nd}(hi:lk o i=some nd)(hn: ∀L,th[i]?=some L->NdAt w z th L nd->NdAt w z th L nd')(hu: ∀T k els op,nd'≠ .ul T k els op:=by intro _ _ _ _ h;cases h):Mem E ((i,nd')::o) n th z w:=by
 have key: ∀j x,lk ((i,nd')::o) j=some x-> ∃y,lk o j=some y:=by
  intro j x hj;simp only[lk] at hj;split at hj
  ·rename_i e;subst e;exact⟨_,hi⟩
  ·exact⟨_,hj⟩
 refine⟨h.len,fun j x hj=>?_,fun j k x y L M hj hk=>?_,h.zlt,h.grow,h.frame,h.zin,h.zout,h.zb,h.globs,h.pre,h.sys,?_⟩
 ·simp only[lk] at hj
  split at hj
  ·rename_i e;subst e;cases hj
   obtain⟨L,h1,h2,h3⟩:=h.nds i nd hi;exact⟨L,h1,hn L h1 h2,h3⟩
  ·exact h.nds j x hj
 ·obtain⟨x',hj'⟩:=key j x hj
  obtain⟨y',hk'⟩:=key k y hk;exact h.inj j k x' y' L M hj' hk'
 ·obtain⟨U,hU⟩:=h.uls
  refine⟨U,fun j T k els op L hj hL=>?_,hU.lt,hU.nz,hU.ow,hU.inj,fun j x L q hj hL hp=>?_⟩
  ·simp only[lk] at hj
   split at hj
   ·cases hj;exact(hu _ _ _ _ rfl).elim
   ·exact hU.at_ j T k els op L hj hL
  ·obtain⟨x',hj'⟩:=key j x hj
   exact hU.kn j x' L q hj' hL hp
theorem Sim.say (h:Sim E N st th z a w){i:Nat}{nd nd':Nd}(hi:lk st.o i=some nd)(hn: ∀L,th[i]?=some L->NdAt w z th L nd->NdAt w z th L nd')(hu: ∀T k els op,nd'≠ .ul T k els op:=by intro _ _ _ _ h;cases h):Sim E N (C4 st i nd') th z a w:=
 ⟨h.mem.say hi hn hu,h.size,h.dfs,h.slots⟩
theorem Mem.sayU (h:Mem E o n th z w){i:Nat}{T k:Nat}{xls els:List (List AV)}{op:List (Nat×Nat×AV)}(hi:lk o i=some (.lst T k xls))(hl:els.length=xls.length)(hk: ∀e ∈ els,e.length=k)(hU: ∃U,UlOK U E ((i,.ul T k els op)::o) th z w):Mem E ((i,.ul T k els op)::o) n th z w:=by
 have key: ∀j x,lk ((i,Nd.ul T k els op)::o) j=some x-> ∃y,lk o j=some y:=by
  intro j x hj;simp only[lk] at hj;split at hj
  ·rename_i e;subst e;exact⟨_,hi⟩
  ·exact⟨_,hj⟩
 refine⟨h.len,fun j x hj=>?_,fun j k x y L M hj hk=>?_,h.zlt,h.grow,h.frame,h.zin,h.zout,h.zb,h.globs,h.pre,h.sys,hU⟩
 ·simp only[lk] at hj
  split at hj
  ·rename_i e;subst e;cases hj
   obtain⟨L,h1,h2,h3⟩:=h.nds i _ hi;refine⟨L,h1,?_,h3⟩
   rcases h2 with ⟨hp,hn⟩ |⟨hp,cells,fr,g1,g2,g3,g4,g5,_⟩
   ·exact .inl ⟨hp,bV.1 (by rw[hl,hn];rfl)⟩
   ·exact .inr ⟨hp,cells,fr,g1,g2,g3,g4,by omega,fun q e he=>by rw[g3];exact hk e (aB he)⟩
  ·exact h.nds j x hj
 ·obtain⟨x',hj'⟩:=key j x hj
  obtain⟨y',hk'⟩:=key k y hk;exact h.inj j k x' y' L M hj' hk'
theorem UlOK.say0 {U:Nat->Nat->Prop}(hU:UlOK U E o th z w){i:Nat}{nd:Nd}(hi:lk o i=some nd){T k:Nat}{els:List (List AV)}{op:List (Nat×Nat×AV)}(hA: ∀L,th[i]?=some L->UlAt w z th (fun _=>False) L els op):UlOK U E ((i,.ul T k els op)::o) th z w:=by
 refine⟨fun j T' k' els' op' L hj hL=>?_,hU.lt,hU.nz,hU.ow,hU.inj,fun j x L q hj hL hp=>?_⟩
 ·simp only[lk] at hj
  split at hj
  ·rename_i e;subst e;cases hj
   obtain⟨F,h1,h2,h3⟩:=hA L hL;exact⟨F,fun a b c hb=>(h1 a b c hb).elim,h2,h3⟩
  ·exact hU.at_ j T' k' els' op' L hj hL
 ·simp only[lk] at hj
  split at hj
  ·rename_i e;subst e;exact hU.kn i nd L q hi hL hp
  ·exact hU.kn j x L q hj hL hp
theorem S0 (h:Sim E N st th z a w){T:TypeId}{len:Nat}{parts:Array (Nat×Operand)}{d:Option Nat}{t:TypeId}{pos:String}{aft:Array Edge}{g:Option (Nat×Bool)}{k:AV->AS->Prop}{c:Prop}{v:AV}{s:AS}(hq:FY P E.G st (.buildSlice T len parts)=some (c,v,s))(hc:c)(hk:k v s):
  OF P E N ⟨d,.buildSlice T len parts,t,pos,aft,g⟩ a w th [] st.m k true:=by
 simp only[FY] at hq;unfold SH at hq;split at hq
 ·rename_i e s1 b1 z1 c1 hT he
  split at hq
  ·rename_i kk sz by' zs c' st' hTe hf
   split at hq
   ·rename_i els op hels
    simp only[aM,cH] at hq;obtain⟨rfl,rfl,rfl⟩:=hq;obtain⟨rfl,hle⟩:=hc;obtain⟨z',hz,hS,hr,hm,hn⟩:=H0 c1 h (Bo h he) hf;obtain⟨xls,g1,g2,g3,g4⟩:=O7 _ c' 0 _ els op hels hr;rw[<-g2] at hle
    have hex:Reps w z' [] (((parts.toList.map (·.2)).map a.eval).map exA) ((parts.toList.map (·.2)).map a.eval):=⟨by simp,fun i x y h1 h2=>by
     rw[List.getElem?_map,h2] at h1;simp at h1;subst h1;exact Xd _⟩
    obtain⟨w',r1,r2,r3⟩:=Mr hS (d:=d) (t:=t) (pos:=pos) (aft:=aft) (g:=g) hT hTe hex g1 hle;have hget:=hS.get_new ⟨w.heap.size,0,sz,xls.length,false⟩;have le:Le w z' w' z':=r2.le (fun _ _ h=>h) hS.mem.zlt
    have hlk:lk ((st'.n,Nd.lst e sz xls)::st'.o) st'.n=some (.lst e sz xls):=by simp[lk]
    obtain⟨U,hU⟩:=r3.mem.uls
    have hmem:=Mem.sayU r3.mem (i:=st'.n) (T:=e) (k:=sz) (xls:=xls) (els:=els) (op:=op) hlk g2.symm (fun e' he'=>by
     obtain⟨q,hq⟩:=aO.1 he'
     exact(g3 q e' hq).1) ⟨U,hU.say0 hlk (fun L hL=>by
     rw[hget] at hL;cases hL;obtain⟨L',k1,k2,_⟩:=r3.mem.nds st'.n _ hlk;rw[hget] at k1;cases k1
     rcases k2 with ⟨hp,_⟩ |⟨_,cells,fr,q1,q2,q3,q4,q5,q6⟩
     ·cases hp
     refine⟨fun _ _ _=>False,fun _ _ _ h=>h,fun _ _ _ _ _ h=>h.elim,fun i e' he' j x hx=>?_⟩;obtain⟨m1,ys,m2,m3,m4⟩:=g3 i e' he';obtain⟨y,hy,hcu⟩:=m4 j x hx;obtain⟨p1,p2⟩:=q6 i _ m2;obtain⟨y',hy',hr',ho'⟩:=p2 j (.r y) (by rw[List.getElem?_map,hy];rfl);obtain rfl:=hr'.r_inv;rw[Nat.zero_add] at hcu
     exact⟨y',by rw[Bj q1];exact hy',ho',(hcu _).on le (fun _ h=>h.elim) _⟩)⟩
    have hsub:Sim E N (Br st' (.ul e sz els op)) (th++[⟨w.heap.size,0,sz,xls.length,false⟩]) z' a w':=
     ⟨hmem.sub (fun i x hi=>by
      simp only[Br,lk] at hi ⊢;split
      ·rename_i e1;rw[if_pos e1] at hi;exact hi
      ·rename_i e1;rw[if_neg e1] at hi;exact hi),r3.size,r3.dfs,r3.slots⟩
    rw[<-g2];exact⟨_,_,_,_,z',w',.inl r1,by rw[g2];exact hk,hsub,.s _ _ 0 _ _ 0 _ hget rfl (Nat.le_refl _) (by simp) (fun _=>by simp),hm,fun _=>r2,BX _ _,r2.t⟩
   ·cases hq
  ·cases hq
 ·cases hq
end
section
variable {P:Program} {E:Env} {N:Nat} {st:AS} {th:List NLoc} {z:AO} {a:Act} {w:World} {o:List (Nat×Nd)} {n:Nat}
theorem G7: ∀(op:List (Nat×Nat×AV))(i j m i' j':Nat),F0 (Sf op i j m) i' j'=if i'=i/\j≤j'/\j'<j+m then none else F0 op i' j'
 | [],i,j,m,i',j'=>by simp[Sf,F0]
 |(a,b,x)::r,i,j,m,i',j'=>by
  simp only[Sf];split
  ·rename_i h
   rw[G7 r,F0];split
   ·rfl
   ·rename_i h2
    rw[if_neg (fun e=>h2 ⟨by omega,by omega,by omega⟩)]
  ·rename_i h
   simp only[F0];rw[G7 r]
   by_cases h1:a=i'/\b=j'
   ·rw[if_pos h1,if_pos h1,if_neg (fun e=>h ⟨by omega,by omega,by omega⟩)]
   ·rw[if_neg h1,if_neg h1]
theorem R9 {cs new:List AV}{off:Nat}(h:off+new.length≤cs.length)(j:Nat):(splice cs off new)[j]?=if off≤j/\j<off+new.length then new[j - off]? else cs[j]?:=by
 unfold splice
 have hl:(cs.take off).length=off:=by rw[aS];omega
 by_cases h1:j<off
 ·rw[if_neg (by omega),bB,bF (by omega),bM h1]
 ·by_cases h2:j<off+new.length
  ·rw[if_pos (by omega),bB,bQ (by omega),hl,bF (by omega)]
  ·rw[if_neg (by omega),bQ (by simp[hl];omega),bI]
   simp only[List.length_append,hl]
   congr 1;omega
theorem Rz (h:Sim E N st th z a w){T:TypeId}{X V:Operand}{d:Option Nat}{t:TypeId}{pos:String}{aft:Array Edge}{g:Option (Nat×Bool)}{k:AV->AS->Prop}{c:Prop}{vv:AV}{s:AS}(hq:FY P E.G st (.store T X V)=some (c,vv,s))(hc:c)(hk:k vv s):
  OF P E N ⟨d,.store T X V,t,pos,aft,g⟩ a w th (G_ st E.G (.store T X V)) st.m k false:=by
 simp only[FY] at hq;unfold R6 at hq;split at hq
 ·rename_i y n i off v hT hx hv
  obtain⟨L,hL,hp⟩:=(AL h hx).p_inv;have hr:=AL h hv
  have hts:G_ st E.G (.store T X V)=[n]:=by simp only[G_,hx]
  rw[hts];split at hq
  ·rename_i T' k' els op ho'
   split at hq
   ·rename_i e c' he hlay
    · ·simp only[aM,cH] at hq
       obtain⟨rfl,rfl,rfl⟩:=hq;obtain⟨h2,h3,h4,h5⟩:=hc;obtain⟨L',k1,k2,k6⟩:=h.mem.nds _ _ ho';rw[hL] at k1;cases k1
       rcases k2 with ⟨_,hn0⟩ |⟨hph,cells,fr,g2,g3,g4,g5,g6,g7⟩
       ·subst hn0;simp at he
       obtain⟨k6,k7,k8⟩:=k6 hph;have hcs:=CS hr h4
       have hsz:(a.eval V).cells.size=y.size:=by have:=hcs.1;rw[h2] at this;simpa using this
       have hone:=HV hr h4 h5;have hel:=g7 i e he;have hi:i<els.length:=(aA.1 he).1
       have hbd:i * L.k+L.k≤L.cap * L.k:=by
        have:(i+1) * L.k≤L.cap * L.k:=bP _ (by omega)
        rwa [bJ,Nat.one_mul] at this
       have hll:=Of hlay;obtain⟨q1,q2,q3⟩:=DB L.b (a.eval V).cells.toList (L.o+i * L.k+off) w cells T' fr g2;have le:Le w z (w.setCells L.b (L.o+i * L.k+off) (a.eval V).cells.toList) z:=⟨fun _ _ h=>h,fun t b hb=>q2 b (fun e=>by subst e;exact k7 t hb)⟩
       have hvl:(a.eval V).cells.toList.length=y.size:=by simpa using hsz
       have hin:L.o+i * L.k+off+(a.eval V).cells.toList.length≤cells.size:=by omega
       have hspl:off+c'.length≤e.length:=by omega
       refine⟨undef,.r undef,_,th,z,w.setCells L.b (L.o+i * L.k+off) (a.eval V).cells.toList,.inr ⟨?_,rfl⟩,hk,h.write ho' hL hph (Bh _ _ _ _) q1 q2 ?_ ?_,.r _ _,rfl,(fun h=>by cases h),Later.refl _,⟨eL q1.symm,fun b _ hne=>q2 b (fun e=>hne n (by simp) L hL hph e.symm),Bh _ _ _ _⟩⟩
       ·have:=Gf (P:=P) hT (b:=L.b) (o:=L.o+i * L.k+off) hsz g2 g3 (by omega) hone
        simp only[execOp,hp,aQ,this,aL]
        rfl
       ·refine .inr ⟨hph,_,fr,q3,fun q hq=>by rw[C5] at hq;exact g3 q hq,g4,by rw[C5];exact g5,by simpa using g6,fun q e' hq=>?_⟩
        rw[dQ] at hq;split at hq
        ·obtain rfl:=bD hq;rw[Hu hspl];exact hel
        ·exact g7 q e' hq
       ·intro T2 k2 els2 op2 heq U hU
        cases heq;obtain⟨F,f1,f2,f3⟩:=hU.at_ n T' k' els op L ho' hL;have hUb: ∀b,U n b->(w.setCells L.b (L.o+i * L.k+off) (a.eval V).cells.toList).heap[b]?=w.heap[b]?:=fun b hb=>q2 b (fun e=>by subst e;exact hU.kn n _ L n ho' hL hph hb);refine⟨F,f1,f2,fun q e' hq j x hx=>?_⟩
        have hcell: ∀p,(w.setCells L.b (L.o+i * L.k+off) (a.eval V).cells.toList).cell? ⟨L.b,p,none⟩=if L.o+i * L.k+off≤p/\p<L.o+i * L.k+off+(a.eval V).cells.toList.length then (a.eval V).cells.toList[p - (L.o+i * L.k+off)]? else w.cell? ⟨L.b,p,none⟩:=by
         intro p;rw[Bj q3,CP _ _ _ hin,Bj g2]
        have old: ∀e0,els[q]?=some e0->e0[j]?=some x-> ¬(q=i/\off≤j/\j<off+y.size)-> ∃u,(w.setCells L.b (L.o+i * L.k+off) (a.eval V).cells.toList).cell? ⟨L.b,L.o+q * L.k+j,none⟩=some u/\u.oneCell'=true/\CellU (w.setCells L.b (L.o+i * L.k+off) (a.eval V).cells.toList) z th (F q j) (EV i off v.cells++Sf op i off v.cells.length) q j x u:=by
         intro e0 he0 hx0 hne;obtain⟨u,hu,ho1,hcu⟩:=f3 q e0 he0 j x hx0
         have hjk:j<L.k:=by rw[<-g7 q e0 he0];exact(aA.1 hx0).1
         refine⟨u,?_,ho1,?_⟩
         ·rw[hcell,if_neg]
          ·exact hu
          ·intro hr
           rw[hvl] at hr
           by_cases hqi:q=i
           ·subst hqi;exact hne ⟨rfl,by omega,by omega⟩
           ·rcases Nat.lt_or_gt_of_ne hqi with hlt |hlt
            ·have:(q+1) * L.k≤i * L.k:=bP _ hlt
             rw[bJ,Nat.one_mul] at this;omega
            ·have:(i+1) * L.k≤q * L.k:=bP _ hlt
             rw[bJ,Nat.one_mul] at this;omega
         ·have hcu:=hcu.on le (fun b hb=>hUb b (f1 _ _ _ hb)) []
          rw[List.append_nil] at hcu;unfold CellU at hcu ⊢;rw[Dr,G7,if_neg (by omega)]
          have:F0 (EV i off v.cells) q j=none:=by
           by_cases hqi:q=i
           ·subst hqi;exact IJ _ _ _ (by omega)
           ·exact Gm _ _ _ _ hqi
          rw[this];exact hcu
        rw[dQ] at hq;split at hq
        ·rename_i hqi
         ·subst hqi
          obtain rfl:=bD hq;rw[R9 hspl] at hx;split at hx
          ·rename_i hj
           obtain⟨u,hu,hcu⟩:=M9 (f:=F i j) (i:=i) (j0:=off) hlay hcs (j - off) x hx;refine⟨u,?_,hone u (aB hu),?_⟩
           ·rw[hcell,if_pos (by omega),show L.o+i * L.k+j - (L.o+i * L.k+off)=j - off by omega]
            exact hu
           ·rw[show off+(j - off)=j by omega] at hcu
            have hcu:=hcu.on le (fun b hb=>hUb b (f1 _ _ _ hb)) [];rw[List.append_nil] at hcu;unfold CellU at hcu ⊢;rw[Dr];split at hcu
            ·rename_i x' hx';first |exact hcu |(rw[hx'];exact hcu)
            ·rename_i hx';first |(rw[hx'];simp only;rw[G7,if_pos (by omega)];exact hcu) |(rw[G7,if_pos (by omega)];exact hcu)
          ·rename_i hj
           exact old e he hx (by omega)
        ·rename_i hqi
         exact old e' hq hx (fun hh=>hqi hh.1.symm)
   ·cases hq
  ·cases hq
 ·cases hq
theorem Ot (h:Sim E N st th z a w){T:TypeId}{r:Option Operand}{d:Option Nat}{t:TypeId}{pos:String}{aft:Array Edge}{g:Option (Nat×Bool)}{k:AV->AS->Prop}{c:Prop}{vv:AV}{s:AS}(hq:FY P E.G st (.makeMap T r)=some (c,vv,s))(hc:c)(hk:k vv s):
  OF P E N ⟨d,.makeMap T r,t,pos,aft,g⟩ a w th [] st.m k true:=by
 cases r with
 |some r=>simp[FY] at hq
 |none=>
  simp only[FY,aM,cH] at hq;obtain⟨rfl,rfl,rfl⟩:=hq;have e:=Fq w (.map #[] 0);have hS:=h.add e ⟨w.heap.size,0,0,0,false⟩ (.mp []) (Nat.le_refl _) (by simp) ⟨rfl,#[],0,Gq _ _,rfl,fun e he=>by simp at he⟩;refine⟨.map (some w.heap.size),_,_,_,z,_,.inl ?_,hk,hS,.q _ _ _ (h.get_new _),rfl,fun _=>e,BX _ _,e.t⟩;simp[execOp,Instr.makeMap]
theorem Md (h:Sim E N st th z a w){T:TypeId}{M K V:Operand}{d:Option Nat}{t:TypeId}{pos:String}{aft:Array Edge}{g:Option (Nat×Bool)}{k:AV->AS->Prop}{c:Prop}{vv:AV}{s:AS}(hq:FY P E.G st (.mapUpdate T M K V)=some (c,vv,s))(hc:c)(hk:k vv s):
  OF P E N ⟨d,.mapUpdate T M K V,t,pos,aft,g⟩ a w th (G_ st E.G (.mapUpdate T M K V)) st.m k false:=by
 simp only[FY] at hq;unfold Z1 at hq;split at hq
 ·rename_i kT e s1 b1 z1 n v hT hm hkey hx
  split at hq
  ·rename_i s2 b2 z2 l hk2 hl
   simp only[aM,cH] at hq;obtain⟨rfl,rfl,rfl⟩:=hq
   have hts:G_ st E.G (.mapUpdate T M K V)=[n]:=by simp only[G_,hm]
   rw[hts];obtain⟨L,hL,hv⟩:=(AL h hm).q_inv;have hkv:=(AL h hkey).r_inv
   have hxv:a.eval V= .agg #[]:=by
    obtain⟨ys,h1,h2⟩:=(AL h hx).agg_inv;rw[h1,h2.of_nil]
   obtain⟨L',h1,⟨hp,es,ck,h2,h3,hvals⟩,h4⟩:=h.mem.nds _ _ hl;rw[hL] at h1;cases h1;obtain⟨r,g1,g2,g3⟩:=KW (P:=P) (ER hk2 rfl) (v:=v) h3;have hund:=OJ hT rfl;have hset: ∀ob:Obj,(setObj L.b ob).run P w= .ok () {w with heap:=w.heap.setIfInBounds L.b ob}:=fun ob=>MapKept.run_setObj_map ob h2;have hlt:L.b<w.heap.size:=(h4 hp).1
   have fin: ∀(es':Array MapEntry)(ck':Nat),es'.toList.map (·.key)=(RK l v).map (.int .i64 ·)->(∀e ∈ es'.toList,e.val= .agg #[])->(Instr.mapUpdate T (a.eval M) (a.eval K) (a.eval V)).run P w= .ok () {w with heap:=w.heap.setIfInBounds L.b (.map es' ck')}->OF P E N ⟨d,.mapUpdate T M K V,t,pos,aft,g⟩ a w th [n] st.m k false:=by
    intro es' ck' hes hev hrun
    have hsame: ∀b,b≠L.b->(w.heap.setIfInBounds L.b (.map es' ck'))[b]?=w.heap[b]?:=fun b hb=>by rw[dX (cL hb)]
    refine⟨undef,.r undef,_,th,z,{w with heap:=w.heap.setIfInBounds L.b (.map es' ck')},.inr ⟨?_,rfl⟩,hk,h.write hl hL hp (w':={w with heap:=w.heap.setIfInBounds L.b (.map es' ck')}) ⟨rfl,rfl,rfl⟩ (by simp) hsame ⟨hp,es',ck',?_,hes,hev⟩,.r _ _,rfl,(fun h=>by cases h),Later.refl _,⟨by simp,fun b _ hne=>hsame b (fun e=>hne n (by simp) L hL hp e.symm),⟨rfl,rfl,rfl⟩⟩⟩
    ·simp only[execOp,aQ,hrun,aL];rfl
    ·show(w.heap.setIfInBounds L.b (.map es' ck'))[L.b]?=_
     rw[eD hlt]
   cases r with
   |none=>
    have hnot:l.contains v=false:=by rw[<-g2];rfl
    refine fin (es.push {key:= .int .i64 v,val:=a.eval V,born:=ck}) (ck+1) (by
     have hpk:RK l v=l++[v]:=by unfold RK;rw[hnot];rfl
     rw[hpk];simp[h3]) (fun e he=>by
     simp only[Array.toList_push,cK,aW] at he
     rcases he with he |rfl
     ·exact hvals e he
     ·exact hxv) ?_
    rw[hv,hkv];simp only[Instr.mapUpdate,aQ,AD hund,aL,Ie h2,GP (ER hk2 rfl),g1,hset]
   |some p=>
    obtain⟨i,u⟩:=p
    have hin:l.contains v=true:=by rw[<-g2];rfl
    have key: ∀(es0:List MapEntry)(l0:List Int)(q:Nat),es0.map (·.key)=l0.map (.int .i64 ·)->Instr.findNow (.int .i64) (.int .i64 v) es0 q=some (some (i,u))-> ∃j,i=q+j/\(es0[j]?).map (·.key)=some (.int .i64 v):=by
     intro es0
     induction es0 with
     |nil=>intro l0 q _ hf;simp[Instr.findNow] at hf
     |cons e es0 ih=>
      intro l0 q hh hf
      cases l0 with
      |nil=>simp at hh
      |cons k0 l0=>
       simp only[List.map_cons,fC] at hh;simp only[Instr.findNow,hh.1,Instr.sameNow,if_true] at hf
       by_cases hvk:v=k0
       ·subst hvk
        simp at hf;exact⟨0,by omega,by simp[hh.1]⟩
       ·have:(v==k0)=false:=by simpa using hvk
        rw[this] at hf;obtain⟨j,hj,hj2⟩:=ih l0 (q+1) hh.2 hf;exact⟨j+1,by omega,by simpa using hj2⟩
    obtain⟨j,hj,hj2⟩:=key es.toList l 0 h3 g3;rw[Nat.zero_add] at hj;subst hj;rw[bW] at hj2;refine fin (es.modify i fun e=>{e with key:= .int .i64 v,val:=a.eval V}) ck ?_ (fun e he=>?_) ?_
    ·simp only[RK,hin,cond_true]
     rw[<-h3];apply eB;intro q;rw[List.getElem?_map,List.getElem?_map,bW,bW,fF];split
     ·rename_i e;subst e
      cases hq:es[i]? with
      |none=>rfl
      |some e0=>rw[hq] at hj2;simp at hj2;simp[hj2]
     ·rfl
    ·obtain⟨q,hq⟩:=aO.1 he
     rw[bW,fF] at hq;split at hq
     ·cases hq0:es[q]? with
      |none=>rw[hq0] at hq;simp at hq
      |some e0=>rw[hq0] at hq;simp at hq;rw[<-hq];exact hxv
     ·exact hvals e (aB (by rw[bW];exact hq))
    ·rw[hv,hkv]
     have hkeep:(Instr.keyThatStays (((es[i]?).map (·.key)).getD (.int .i64 v)) (.int .i64 v)).run P w= .ok (.int .i64 v) w:=by
      rw[hj2]
      have hsb:Instr.sameBits 10000 (.int .i64 v) (.int .i64 v)=true:=by
       rw[show(10000:Nat)=9999+1 from rfl];simp[Instr.sameBits]
      simp only[Instr.keyThatStays,dH,hsb,if_true]
      rfl
     simp only[Instr.mapUpdate,aQ,AD hund,aL,Ie h2,GP (ER hk2 rfl),g1,hkeep,hset]
  ·cases hq
 ·cases hq
end
end Go.AM
