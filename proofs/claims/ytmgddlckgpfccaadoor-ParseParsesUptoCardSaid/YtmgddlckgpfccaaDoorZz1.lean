/- Texts of the law ParseParses, part 1: lemmas; what is proved stands in the last text. -/
import Derived.WalkKit
import Derived.StillTail
import Derived.OrdersHeld
import Derived.RegionTactic
import Derived.Laws.StructEq
import Derived.Laws.IdiomStrings
import Derived.Deep.AppendSrc
import Derived.Laws.IdiomCopy
import Derived.Deep.Upon
set_option linter.unusedSimpArgs false
set_option linter.unusedVariables false
set_option maxRecDepth 100000
namespace Go.AM
open Go
inductive AV where
 |r (v:Value)
 |ro (t:Bool) (k:Nat) (els:List (List AV))
 |re (t:Bool) (c:List AV) (off:Nat)
 |s (n lo len:Nat)
 |p (n i off:Nat)
 |agg (c:List AV)
 |tup (c:List AV)
 |fn (f:Nat) (c:List AV)
 |ifc (t:Nat) (v:AV)
 |q (n:Nat)
 |u (T k:Nat) (els:List (List AV))
 |any
instance:Inhabited AV:=⟨.r undef⟩
structure NLoc where
 b:Nat
 o:Nat
 k:Nat
 cap:Nat
 ph:Bool:=false
abbrev Ag:=Bool→Nat→Prop
inductive Rep (w:World)(z:Ag):List NLoc→AV→Value→Prop
 |r (th:List NLoc) (v:Value):Rep w z th (.r v) v
 |nil (th:List NLoc) (t:Bool) (k:Nat) (a:Option Addr) (c:Nat):Rep w z th (.ro t k []) (.slice a 0 c)
 |ro (th:List NLoc) (t:Bool) (k:Nat) (els:List (List AV)) (b o c:Nat) (ys:Nat→Nat→Value) (hz:z t b) (hc:els.length≤c) (hk: ∀(i:Nat)(e:List AV),els[i]?=some e→e.length=k)
  (hy: ∀(i:Nat)(e:List AV)(j:Nat)(x:AV),els[i]?=some e→e[j]?=some x→w.cell? ⟨b,o+i * k+j,none⟩=some (ys i j))
  (h1: ∀(i:Nat)(e:List AV)(j:Nat)(x:AV),els[i]?=some e→e[j]?=some x→(ys i j).oneCell'=true)
  (hx: ∀(i:Nat)(e:List AV)(j:Nat)(x:AV),els[i]?=some e→e[j]?=some x→Rep w z [] x (ys i j)):Rep w z th (.ro t k els) (.slice (some ⟨b,o,none⟩) els.length c)
 |re (th:List NLoc) (t:Bool) (c:List AV) (b o off:Nat) (ys:Nat→Value) (hz:z t b) (hy: ∀(j:Nat)(x:AV),c[j]?=some x→w.cell? ⟨b,o+j,none⟩=some (ys j))
  (hx: ∀(j:Nat)(x:AV),c[j]?=some x→Rep w z [] x (ys j)):Rep w z th (.re t c off) (.pointer (some ⟨b,o+off,none⟩))
 |s (th:List NLoc) (n lo len c x:Nat) (L:NLoc) (hL:th[n]?=some L) (hp:L.ph=false) (hl:len≤c) (hc:lo+c≤L.cap) (hx:0<c→x=L.o+lo * L.k):
    Rep w z th (.s n lo len) (.slice (some ⟨L.b,x,none⟩) len c)
 |sn (th:List NLoc) (n lo:Nat) (L:NLoc) (hL:th[n]?=some L) (hp:L.ph=true):Rep w z th (.s n lo 0) (.slice none 0 0)
 |p (th:List NLoc) (n i off:Nat) (L:NLoc) (hL:th[n]?=some L):Rep w z th (.p n i off) (.pointer (some ⟨L.b,L.o+i * L.k+off,none⟩))
 |agg (th:List NLoc) (c:List AV) (ys:List Value) (hl:ys.length=c.length) (hx: ∀(i:Nat)(x:AV)(y:Value),c[i]?=some x→ys[i]?=some y→Rep w z th x y):Rep w z th (.agg c) (.agg ys.toArray)
 |tup (th:List NLoc) (c:List AV) (ys:List Value) (hl:ys.length=c.length) (hx: ∀(i:Nat)(x:AV)(y:Value),c[i]?=some x→ys[i]?=some y→Rep w z th x y):Rep w z th (.tup c) (.tuple ys.toArray)
 |fn (th:List NLoc) (f:Nat) (c:List AV) (ys:List Value) (hl:ys.length=c.length) (hx: ∀(i:Nat)(x:AV)(y:Value),c[i]?=some x→ys[i]?=some y→Rep w z th x y):Rep w z th (.fn f c) (.func (.func f) #[] ys.toArray)
 |ifc (th:List NLoc) (t:Nat) (x:AV) (v:Value) (hx:Rep w z th x v):Rep w z th (.ifc t x) (.iface t v)
 |q (th:List NLoc) (n:Nat) (L:NLoc) (hL:th[n]?=some L):Rep w z th (.q n) (.map (some L.b))
 |any (th:List NLoc) (v:Value):Rep w z th .any v
def Reps (w:World)(z:Ag)(th:List NLoc)(c:List AV)(ys:List Value):Prop:=ys.length=c.length∧ ∀(i:Nat)(x:AV)(y:Value),c[i]?=some x→ys[i]?=some y→Rep w z th x y
structure Le (w:World)(z:Ag)(w':World)(z':Ag):Prop where
 sub: ∀t b,z t b→z' t b
 same: ∀t b,z t b→w'.heap[b]?=w.heap[b]?
theorem CX {w w':World}{b:Nat}(h:w'.heap[b]?=w.heap[b]?)(o:Nat):w'.cell? ⟨b,o,none⟩=w.cell? ⟨b,o,none⟩:=by
 unfold World.cell?;rw[h]
theorem Le.refl (w:World)(z:Ag):Le w z w z:=⟨fun _ _ h=>h,fun _ _ _=>rfl⟩
theorem BB {α:Type}{th:List α}{n:Nat}{L:α}(more:List α)(h:th[n]?=some L):(th++more)[n]?=some L:=by
 rw[List.getElem?_append_left];·exact h
 ·exact(List.getElem?_eq_some_iff.1 h).1
theorem Rep.mono {w w':World}{z z':Ag}{th:List NLoc}{x:AV}{v:Value}(h:Rep w z th x v)(l:Le w z w' z'): ∀more:List NLoc,(th=[]→more=[])∨True→Rep w' z' (th++more) x v:=by
 induction h with
 |r th v=>intro more _;exact .r _ v
 |nil th t k a c=>intro more _;exact .nil _ t k a c
 |ro th t k els b o c ys hz hc hk hy ho hx ih=>intro more _;exact .ro _ t k els b o c ys (l.sub _ _ hz) hc hk (fun i e j x h1 h2=>(CX (l.same _ _ hz) _).trans (hy i e j x h1 h2)) ho (fun i e j x h1 h2=>by simpa using ih i e j x h1 h2 [] (.inr trivial))
 |re th t c b o off ys hz hy hx ih=>intro more _;exact .re _ t c b o off ys (l.sub _ _ hz) (fun j x h1=>(CX (l.same _ _ hz) _).trans (hy j x h1)) (fun j x h1=>by simpa using ih j x h1 [] (.inr trivial))
 |s th n lo len c x L hL hp hl hc hx=>intro more _;exact .s _ n lo len c x L (BB _ hL) hp hl hc hx
 |sn th n lo L hL hp=>intro more _;exact .sn _ n lo L (BB _ hL) hp
 |p th n i off L hL=>intro more _;exact .p _ n i off L (BB _ hL)
 |agg th c ys hl hx ih=>intro more _;exact .agg _ c ys hl (fun i x y h1 h2=>ih i x y h1 h2 more (.inr trivial))
 |tup th c ys hl hx ih=>intro more _;exact .tup _ c ys hl (fun i x y h1 h2=>ih i x y h1 h2 more (.inr trivial))
 |fn th f c ys hl hx ih=>intro more _;exact .fn _ f c ys hl (fun i x y h1 h2=>ih i x y h1 h2 more (.inr trivial))
 |ifc th t x v hx ih=>intro more _;exact .ifc _ t x v (ih more (.inr trivial))
 |q th n L hL=>intro more _;exact .q _ n L (BB _ hL)
 |any th v=>intro more _;exact .any _ v
theorem Rep.on {w w':World}{z z':Ag}{th:List NLoc}{x:AV}{v:Value}(h:Rep w z th x v)(l:Le w z w' z')(more:List NLoc:=[]):Rep w' z' (th++more) x v:=h.mono l more (.inr trivial)
theorem Rep.on' {w w':World}{z z':Ag}{th:List NLoc}{x:AV}{v:Value}(h:Rep w z th x v)(l:Le w z w' z'):Rep w' z' th x v:=by simpa using h.on l []
theorem Rep.pure {w:World}{z:Ag}{x:AV}{v:Value}(th:List NLoc)(h:Rep w z [] x v):Rep w z th x v:=h.on (Le.refl w z) th
theorem Reps.on {w w':World}{z z':Ag}{th:List NLoc}{c:List AV}{ys:List Value}(h:Reps w z th c ys)(l:Le w z w' z')(more:List NLoc:=[]):Reps w' z' (th++more) c ys:=⟨h.1,fun i x y h1 h2=>(h.2 i x y h1 h2).on l more⟩
theorem Reps.nil {w:World}{z:Ag}{th:List NLoc}:Reps w z th [] []:=⟨rfl,fun i x y h=>by simp at h⟩
theorem Reps.cons {w:World}{z:Ag}{th:List NLoc}{x:AV}{y:Value}{c:List AV}{ys:List Value}(h:Rep w z th x y)(r:Reps w z th c ys):Reps w z th (x::c) (y::ys):=by
 refine⟨by simp[r.1],fun i a b h1 h2=>?_⟩
 cases i with
 |zero=>simp at h1 h2;subst h1 h2;exact h
 |succ i=>simp at h1 h2;exact r.2 i a b h1 h2
theorem Reps.head {w:World}{z:Ag}{th:List NLoc}{x:AV}{c:List AV}{ys:List Value}(r:Reps w z th (x::c) ys): ∃y ys',ys=y::ys'∧Rep w z th x y∧Reps w z th c ys':=by
 cases ys with
 |nil=>simp[Reps] at r
 |cons y ys'=>exact⟨y,ys',rfl,r.2 0 x y rfl rfl,by simpa using r.1,fun i a b h1 h2=>r.2 (i+1) a b (by simpa using h1) (by simpa using h2)⟩
theorem Reps.of_nil {w:World}{z:Ag}{th:List NLoc}{ys:List Value}(r:Reps w z th [] ys):ys=[]:=by
 have:=r.1;simpa using this
theorem Reps.get {w:World}{z:Ag}{th:List NLoc}{c:List AV}{ys:List Value}(r:Reps w z th c ys){i:Nat}{x:AV}(h:c[i]?=some x): ∃y,ys[i]?=some y∧Rep w z th x y:=by
 have hi:i<ys.length:=by rw[r.1];exact(List.getElem?_eq_some_iff.1 h).1
 exact⟨ys[i],by simp[hi],r.2 i x _ h (by simp[hi])⟩
theorem Reps.append {w:World}{z:Ag}{th:List NLoc}{c d:List AV}{ys us:List Value}(r:Reps w z th c ys)(r':Reps w z th d us):Reps w z th (c++d) (ys++us):=by
 refine⟨by simp[r.1,r'.1],fun i x y h1 h2=>?_⟩;rw[List.getElem?_append] at h1 h2
 by_cases hi:i<c.length
 ·rw[if_pos hi] at h1;rw[if_pos (by rw[r.1];exact hi)] at h2;exact r.2 i x y h1 h2
 ·rw[if_neg hi] at h1;rw[if_neg (by rw[r.1];exact hi),r.1] at h2;exact r'.2 _ x y h1 h2
theorem Reps.take {w:World}{z:Ag}{th:List NLoc}{c:List AV}{ys:List Value}(r:Reps w z th c ys)(n:Nat):Reps w z th (c.take n) (ys.take n):=by
 refine⟨by simp[r.1],fun i x y h1 h2=>?_⟩;rw[List.getElem?_take] at h1 h2;split at h1
 ·rename_i hi;rw[if_pos hi] at h2;exact r.2 i x y h1 h2
 ·cases h1
theorem Reps.drop {w:World}{z:Ag}{th:List NLoc}{c:List AV}{ys:List Value}(r:Reps w z th c ys)(n:Nat):Reps w z th (c.drop n) (ys.drop n):=by
 refine⟨by simp[r.1],fun i x y h1 h2=>?_⟩;rw[List.getElem?_drop] at h1 h2;exact r.2 _ x y h1 h2
def AV.cell1:AV→Bool
 | .agg _ | .tup _ | .any=>false
 | .r (.agg _) | .r (.tuple _)=>false
 |_=>true
def lk {α:Type}:List (Nat×α)→Nat→Option α
 | [],_=>none
 |(i,x)::r,j=>if i=j then some x else lk r j
inductive Nd where
 |box (T:TypeId) (c:List AV)
 |lst (T:TypeId) (k:Nat) (els:List (List AV))
 |ul (T:TypeId) (k:Nat) (els:List (List AV)) (op:List (Nat×Nat×AV))
 |mp (l:List Int)
def EC:List (Nat×Nat×AV)→Nat→Nat→Option AV
 | [],_,_=>none
 |(i,j,x)::r,i',j'=>if i=i'∧j=j' then some x else EC r i' j'
def Ly (cells:Array Value)(fr:Nat×Nat):Prop:= ∀i,i<cells.size+1→ ¬(fr.1≤i∧i<fr.2)
def NdAt (w:World)(z:Ag)(th:List NLoc)(L:NLoc):Nd→Prop
 | .box T c=>L.ph=false∧ ∃cells fr,w.heap[L.b]?=some (.cells cells T fr)∧Ly cells fr∧L.o=0∧Reps w z th c cells.toList
 | .lst T k els=>(L.ph=true∧els=[])∨(L.ph=false∧ ∃cells fr,w.heap[L.b]?=some (.cells cells T fr)∧Ly cells fr∧L.k=k∧L.o+L.cap * L.k≤cells.size∧els.length≤L.cap∧
  ∀(i:Nat)(e:List AV),els[i]?=some e→e.length=L.k∧ ∀(j:Nat)(x:AV),e[j]?=some x→ ∃y,cells[L.o+i * L.k+j]?=some y∧Rep w z [] x y∧y.oneCell'=true)
 | .ul T k els _=>(L.ph=true∧els=[])∨(L.ph=false∧ ∃cells fr,w.heap[L.b]?=some (.cells cells T fr)∧Ly cells fr∧L.k=k∧L.o+L.cap * L.k≤cells.size∧els.length≤L.cap∧ ∀(i:Nat)(e:List AV),els[i]?=some e→e.length=L.k)
 | .mp l=>L.ph=false∧ ∃es ck,w.heap[L.b]?=some (.map es ck)∧es.toList.map (·.key)=l.map (.int .i64 ·)∧ ∀e ∈ es.toList,e.val= .agg #[]
theorem NdAt.on {w w':World}{z z':Ag}{th:List NLoc}{L:NLoc}{nd:Nd}(h:NdAt w z th L nd)(l:Le w z w' z')(hb:L.ph=false→w'.heap[L.b]?=w.heap[L.b]?)(more:List NLoc:=[]):NdAt w' z' (th++more) L nd:=by
 cases nd with
 |box T c=>obtain⟨hp,cells,fr,h1,h2,h3,h4⟩:=h;exact⟨hp,cells,fr,(hb hp).trans h1,h2,h3,h4.on l more⟩
 |lst T k els=>
  rcases h with h |⟨hp,cells,fr,h1,h2,h3,h4,h5,h6⟩
  ·exact .inl h
  ·exact .inr ⟨hp,cells,fr,(hb hp).trans h1,h2,h3,h4,h5,fun i e he=>⟨(h6 i e he).1,fun j x hx=>let ⟨y,hy,hr,h1⟩:=(h6 i e he).2 j x hx;⟨y,hy,hr.on' l,h1⟩⟩⟩
 |ul T k els op=>
  rcases h with h |⟨hp,cells,fr,h1,h2⟩
  ·exact .inl h
  ·exact .inr ⟨hp,cells,fr,(hb hp).trans h1,h2⟩
 |mp l=>obtain⟨hp,es,ck,h1,h2⟩:=h;exact⟨hp,es,ck,(hb hp).trans h1,h2⟩
inductive UC (w:World)(z:Ag):(Nat→Prop)→AV→Value→Prop
 |r (f:Nat→Prop) (x:AV) (v:Value) (h:Rep w z [] x v):UC w z f x v
 |n (f:Nat→Prop) (T k:Nat):UC w z f (.u T k []) (.slice none 0 0)
 |u (f:Nat→Prop) (T k:Nat) (els:List (List AV)) (b o c:Nat) (cells:Array Value) (fr:Nat×Nat) (F:Nat→Nat→Nat→Prop) (ys:Nat→Nat→Value) (hb:w.heap[b]?=some (.cells cells T fr)) (hf:Ly cells fr) (hl:els.length≤c) (hs:0<c→o+c * k≤cells.size)
    (hfb:f b) (hF: ∀i j b',F i j b'→f b'∧b'≠b) (hd: ∀i j i' j' b',F i j b'→F i' j' b'→i=i'∧j=j') (hk: ∀(i:Nat)(e:List AV),els[i]?=some e→e.length=k) (hy: ∀(i:Nat)(e:List AV)(j:Nat)(x:AV),els[i]?=some e→e[j]?=some x→cells[o+i * k+j]?=some (ys i j))
    (h1: ∀(i:Nat)(e:List AV)(j:Nat)(x:AV),els[i]?=some e→e[j]?=some x→(ys i j).oneCell'=true) (hx: ∀(i:Nat)(e:List AV)(j:Nat)(x:AV),els[i]?=some e→e[j]?=some x→UC w z (F i j) x (ys i j)):UC w z f (.u T k els) (.slice (some ⟨b,o,none⟩) els.length c)
theorem UC.on {w w':World}{z z':Ag}{f:Nat→Prop}{x:AV}{v:Value}(h:UC w z f x v)(l:Le w z w' z'):(∀b,f b→w'.heap[b]?=w.heap[b]?)→UC w' z' f x v:=by
 induction h with
 |r f x v h=>intro _;exact .r f x v (h.on' l)
 |n f T k=>intro _;exact .n f T k
 |u f T k els b o c cells fr F ys hb hf hl hs hfb hF hd hk hy h1 hx ih=>intro hs';exact .u f T k els b o c cells fr F ys ((hs' b hfb).trans hb) hf hl hs hfb hF hd hk hy h1 (fun i e j x h1 h2=>ih i e j x h1 h2 (fun b' hb'=>hs' b' (hF _ _ _ hb').1))
def CellU (w:World)(z:Ag)(th:List NLoc)(f:Nat→Prop)(op:List (Nat×Nat×AV))(i j:Nat)(x:AV)(y:Value):Prop:=match EC op i j with
 |some x'=>Rep w z th x' y
 |none=>UC w z f x y
def UlAt (w:World)(z:Ag)(th:List NLoc)(f:Nat→Prop)(L:NLoc)(els:List (List AV))(op:List (Nat×Nat×AV)):Prop:=
 ∃F:Nat→Nat→Nat→Prop,(∀i j b,F i j b→f b)∧(∀i j i' j' b,F i j b→F i' j' b→i=i'∧j=j')∧ ∀(i:Nat)(e:List AV),els[i]?=some e→ ∀(j:Nat)(x:AV),e[j]?=some x→ ∃y,w.cell? ⟨L.b,L.o+i * L.k+j,none⟩=some y∧y.oneCell'=true∧CellU w z th (F i j) op i j x y
theorem CellU.on {w w':World}{z z':Ag}{th:List NLoc}{f:Nat→Prop}{op:List (Nat×Nat×AV)}{i j:Nat}{x:AV}{y:Value}(h:CellU w z th f op i j x y)(l:Le w z w' z')(hs: ∀b,f b→w'.heap[b]?=w.heap[b]?)(more:List NLoc:=[]):CellU w' z' (th++more) f op i j x y:=by
 unfold CellU at h ⊢;split at h
 ·exact h.on l more
 ·exact h.on l hs
theorem UlAt.on {w w':World}{z z':Ag}{th:List NLoc}{f:Nat→Prop}{L:NLoc}{els:List (List AV)}{op:List (Nat×Nat×AV)}(h:UlAt w z th f L els op)(l:Le w z w' z')(hs: ∀b,f b→w'.heap[b]?=w.heap[b]?)(hb:els=[]∨w'.heap[L.b]?=w.heap[L.b]?)(more:List NLoc:=[]):UlAt w' z' (th++more) f L els op:=by
 obtain⟨F,h1,h2,h3⟩:=h;refine⟨F,h1,h2,fun i e he j x hx=>?_⟩;obtain⟨y,hy,ho,hc⟩:=h3 i e he j x hx
 rcases hb with rfl |hb
 ·simp at he
 ·exact⟨y,(CX hb _).trans hy,ho,hc.on l (fun b hb=>hs b (h1 _ _ _ hb)) more⟩
structure Env where
 w0:World
 own:Nat→Prop
 z0:Ag
 G:List (Nat×List Value)
 th0:List NLoc
 ds:List Deferred
def Sys (w w':World):Prop:=w'.os=w.os∧w'.tape=w.tape∧w'.output=w.output
theorem Sys.refl (w:World):Sys w w:=⟨rfl,rfl,rfl⟩
theorem Sys.trans {a b c:World}(h:Sys a b)(h':Sys b c):Sys a c:=⟨h'.1.trans h.1,h'.2.1.trans h.2.1,h'.2.2.trans h.2.2⟩
structure UlOK (U:Nat→Nat→Prop)(E:Env)(o:List (Nat×Nd))(th:List NLoc)(z:Ag)(w:World):Prop where
 at_: ∀i T k els op L,lk o i=some (.ul T k els op)→th[i]?=some L→UlAt w z th (U i) L els op
 lt: ∀i b,U i b→b<w.heap.size
 nz: ∀i b,U i b→ ∀t,¬z t b
 ow: ∀i b,U i b→E.own b∨E.w0.heap.size≤b
 inj: ∀i j b,U i b→U j b→i=j
 kn: ∀i nd L j,lk o i=some nd→th[i]?=some L→L.ph=false→ ¬U j L.b
structure Mem (E:Env)(o:List (Nat×Nd))(n:Nat)(th:List NLoc)(z:Ag)(w:World):Prop where
 len:th.length=n
 nds: ∀i nd,lk o i=some nd→ ∃L,th[i]?=some L∧NdAt w z th L nd∧(L.ph=false→L.b<w.heap.size∧(∀t,¬z t L.b)∧(E.own L.b∨E.w0.heap.size≤L.b))
 inj: ∀i j x y L M,lk o i=some x→lk o j=some y→th[i]?=some L→th[j]?=some M→L.ph=false→M.ph=false→L.b=M.b→i=j
 zlt: ∀t b,z t b→b<w.heap.size
 grow:E.w0.heap.size≤w.heap.size
 frame: ∀b,b<E.w0.heap.size→ ¬E.own b→w.heap[b]?=E.w0.heap[b]?
 zin: ∀t b,E.z0 t b→z t b
 zout: ∀b,z true b→E.z0 true b∨E.own b∨E.w0.heap.size≤b
 zb: ∀b,z false b→E.z0 false b
 globs: ∀g cs,(g,cs) ∈ E.G→z true g∧ ∀(j:Nat) v,cs[j]?=some v→w.cell? ⟨g,j,none⟩=some v
 pre: ∀(i:Nat) L,E.th0[i]?=some L→th[i]?=some L
 sys:Sys E.w0 w
 uls: ∃U,UlOK U E o th z w
theorem NdAt.ul_nil {w:World}{z:Ag}{th:List NLoc}{L:NLoc}{T:TypeId}{k:Nat}{els:List (List AV)}{op:List (Nat×Nat×AV)}(h:NdAt w z th L (.ul T k els op)):els=[]∨L.ph=false:=by
 rcases h with ⟨_,h⟩ |⟨h,_⟩
 ·exact .inl h
 ·exact .inr h
theorem UlOK.on {U:Nat→Nat→Prop}{E:Env}{o o':List (Nat×Nd)}{th:List NLoc}{z z':Ag}{w w':World}(h:UlOK U E o th z w)(l:Le w z w' z')(hsz:w.heap.size≤w'.heap.size)(hs: ∀i b,U i b→w'.heap[b]?=w.heap[b]?)(hz: ∀i b,U i b→ ∀t,¬z' t b)
  (ho: ∀i T k els op,lk o' i=some (.ul T k els op)→lk o i=some (.ul T k els op)∧ ∀L,th[i]?=some L→els=[]∨w'.heap[L.b]?=w.heap[L.b]?) (more:List NLoc) (hi: ∀i nd,lk o' i=some nd→i<th.length∨ ∀T k els op,nd≠ .ul T k els op)
  (hk: ∀i nd L j,lk o' i=some nd→(th++more)[i]?=some L→L.ph=false→ ¬U j L.b):UlOK U E o' (th++more) z' w':=by
 refine⟨fun i T k els op L h1 h2=>?_,fun i b hb=>Nat.lt_of_lt_of_le (h.lt i b hb) hsz,hz,h.ow,h.inj,hk⟩;obtain⟨h3,h4⟩:=ho i T k els op h1
 rcases hi i _ h1 with hlt |hne
 ·rw[List.getElem?_append_left hlt] at h2
  exact(h.at_ i T k els op L h3 h2).on l (hs i) (h4 L h2) more
 ·exact(hne T k els op rfl).elim
structure AS where
 m:List (Nat×AV)
 o:List (Nat×Nd)
 n:Nat
def AS.put (st:AS)(d:Option Nat)(x:AV):AS:=match d with
 |some d=>{st with m:=(d,x)::st.m}
 |none=>st
structure Sim (E:Env)(N:Nat)(st:AS)(th:List NLoc)(z:Ag)(a:Act)(w:World):Prop where
 mem:Mem E st.o st.n th z w
 size:a.tmps.size=N
 dfs:a.defers=E.ds
 slots: ∀i x,lk st.m i=some x→ ∃y,a.tmps[i]?=some y∧Rep w z th x y
structure Ext (w w':World):Prop where
 size:w.heap.size≤w'.heap.size
 same: ∀b,b<w.heap.size→w'.heap[b]?=w.heap[b]?
 sys:Sys w w'
theorem Ext.refl (w:World):Ext w w:=⟨Nat.le_refl _,fun _ _=>rfl,Sys.refl w⟩
theorem Ext.trans {a b c:World}(h:Ext a b)(h':Ext b c):Ext a c:=⟨Nat.le_trans h.size h'.size,fun x hx=>(h'.same x (Nat.lt_of_lt_of_le hx h.size)).trans (h.same x hx),h.sys.trans h'.sys⟩
theorem Ext.le {w w':World}{z z':Ag}(h:Ext w w')(hz: ∀t b,z t b→z' t b)(hlt: ∀t b,z t b→b<w.heap.size):Le w z w' z':=⟨hz,fun t b hb=>h.same b (hlt t b hb)⟩
structure ExtT (th:List NLoc)(ts:List Nat)(w w':World):Prop where
 size:w.heap.size≤w'.heap.size
 same: ∀b,b<w.heap.size→(∀n ∈ ts,∀L,th[n]?=some L→L.ph=false→L.b≠b)→w'.heap[b]?=w.heap[b]?
 sys:Sys w w'
theorem Ext.t {th:List NLoc}{ts:List Nat}{w w':World}(h:Ext w w'):ExtT th ts w w':=⟨h.size,fun b hb _=>h.same b hb,h.sys⟩
theorem ExtT.ext {th:List NLoc}{w w':World}(h:ExtT th [] w w'):Ext w w':=⟨h.size,fun b hb=>h.same b hb (fun _ hn=>by cases hn),h.sys⟩
def Later (th th':List NLoc):Prop:= ∀(i:Nat) L,th[i]?=some L→th'[i]?=some L
theorem Later.refl (th:List NLoc):Later th th:=fun _ _ h=>h
theorem Later.trans {a b c:List NLoc}(h:Later a b)(h':Later b c):Later a c:=fun i L hi=>h' i L (h i L hi)
theorem Br (th more:List NLoc):Later th (th++more):=fun _ _ h=>BB _ h
theorem Mem.ext {E:Env}{o:List (Nat×Nd)}{n:Nat}{th:List NLoc}{z:Ag}{w w':World}(h:Mem E o n th z w)(e:Ext w w'):Mem E o n th z w':=by
 have l:Le w z w' z:=e.le (fun _ _ h=>h) h.zlt;refine⟨h.len,fun i nd hi=>?_,h.inj,fun t b hb=>Nat.lt_of_lt_of_le (h.zlt t b hb) e.size,Nat.le_trans h.grow e.size,fun b hb ho=>?_,h.zin,h.zout,h.zb,fun g cs hg=>?_,h.pre,h.sys.trans e.sys,?_⟩
 ·obtain⟨L,h1,h2,h3⟩:=h.nds i nd hi
  exact⟨L,h1,by simpa using h2.on l (fun hp=>e.same _ (h3 hp).1) [],fun hp=>⟨Nat.lt_of_lt_of_le (h3 hp).1 e.size,(h3 hp).2⟩⟩
 ·exact(e.same b (Nat.lt_of_lt_of_le hb h.grow)).trans (h.frame b hb ho)
 ·obtain⟨h1,h2⟩:=h.globs g cs hg
  exact⟨h1,fun j v hv=>(CX (e.same _ (h.zlt _ _ h1)) _).trans (h2 j v hv)⟩
 ·obtain⟨U,hU⟩:=h.uls
  refine⟨U,List.append_nil th▸hU.on (o':=o) l e.size (fun i b hb=>e.same b (hU.lt i b hb)) hU.nz (fun i T k els op hi=>⟨hi,fun L hL=>?_⟩) [] (fun i nd hi=> .inl ?_) (by simpa using hU.kn)⟩
  ·obtain⟨L',h1,h2,h3⟩:=h.nds i _ hi
   rw[hL] at h1;cases h1
   rcases h2.ul_nil with h4 |h4
   ·exact .inl h4
   ·exact .inr (e.same _ (h3 h4).1)
  ·obtain⟨L',h1,_⟩:=h.nds i _ hi
   exact(List.getElem?_eq_some_iff.1 h1).1
theorem Sim.ext {E:Env}{N:Nat}{st:AS}{th:List NLoc}{z:Ag}{a:Act}{w w':World}(h:Sim E N st th z a w)(e:Ext w w'):Sim E N st th z a w':=
 ⟨h.mem.ext e,h.size,h.dfs,fun i x hi=>let ⟨y,hy,hr⟩:=h.slots i x hi;⟨y,hy,hr.on' (e.le (fun _ _ h=>h) h.mem.zlt)⟩⟩
theorem Sim.put {E:Env}{N:Nat}{st:AS}{th:List NLoc}{z:Ag}{a:Act}{w:World}(h:Sim E N st th z a w){x:AV}{v:Value}(hr:Rep w z th x v)(d:Option Nat)(hd: ∀i,d=some i→i<N):Sim E N (st.put d x) th z (a.put d v) w:=by
 cases d with
 |none=>exact h
 |some d=>
  refine⟨h.mem,by simp[Act.put,h.size],by simp[Act.put,h.dfs],fun i y hi=>?_⟩;simp only[AS.put,lk] at hi;simp only[Act.put]
  by_cases he:d=i
  ·subst he
   rw[if_pos rfl] at hi;cases hi;exact⟨v,by rw[Array.getElem?_setIfInBounds_self_of_lt];rw[h.size];exact hd _ rfl,hr⟩
  ·rw[if_neg he] at hi
   obtain⟨u,hu,hr'⟩:=h.slots i y hi;exact⟨u,by rw[Array.getElem?_setIfInBounds_ne he];exact hu,hr'⟩
theorem Mem.add {E:Env}{o:List (Nat×Nd)}{n:Nat}{th:List NLoc}{z:Ag}{w w':World}(h:Mem E o n th z w)(e:Ext w w')(L:NLoc)(nd:Nd)(hb:w.heap.size≤L.b)(hb':L.b<w'.heap.size)(hn:NdAt w' z (th++[L]) L nd)
  (hu: ∀T k els op,nd= .ul T k els op→UlAt w' z (th++[L]) (fun _=>False) L els op):Mem E ((n,nd)::o) (n+1) (th++[L]) z w':=by
 have h':=h.ext e;have l:Le w' z w' z:=Le.refl _ _
 have hget:(th++[L])[n]?=some L:=by rw[←h.len];simp
 refine⟨by simp[h.len],fun i y hi=>?_,fun i j x y M M' hi hj hM hM' hp hp' hbb=>?_,h'.zlt,h'.grow,h'.frame,h'.zin,h'.zout,h'.zb,h'.globs,fun i L hi=>BB _ (h.pre i L hi),h'.sys,?_⟩
 ·simp only[lk] at hi
  by_cases he:n=i
  ·subst he
   rw[if_pos rfl] at hi;cases hi;exact⟨L,hget,hn,fun _=>⟨hb',fun t hz=>by have:=h.zlt _ _ hz;omega,.inr (Nat.le_trans h.grow hb)⟩⟩
  ·rw[if_neg he] at hi
   obtain⟨M,h1,h2,h3⟩:=h'.nds i y hi;exact⟨M,BB _ h1,h2.on l (fun _=>rfl) [L],h3⟩
 ·have old: ∀i x M,lk ((n,nd)::o) i=some x→(th++[L])[i]?=some M→M.ph=false→(i=n∧M=L)∨(∃x,lk o i=some x∧th[i]?=some M∧M.b<w.heap.size):=by
   intro i x M hi hM hp;simp only[lk] at hi
   by_cases he:n=i
   ·subst he;rw[hget] at hM;cases hM;exact .inl ⟨rfl,rfl⟩
   ·rw[if_neg he] at hi
    obtain⟨M',h1,_,h3⟩:=h.nds i x hi;have:=BB [L] h1;rw[this] at hM;cases hM;exact .inr ⟨x,hi,h1,(h3 hp).1⟩
  rcases old i x M hi hM hp with ⟨rfl,rfl⟩ |⟨x1,a1,b1,c1⟩<;>rcases old j y M' hj hM' hp' with ⟨rfl,rfl⟩ |⟨x2,a2,b2,c2⟩
  ·rfl
  ·omega
  ·omega
  ·exact h.inj i j x1 x2 M M' a1 a2 b1 b2 hp hp' hbb
 ·obtain⟨U,hU⟩:=h'.uls
  obtain⟨V,hV⟩:=h.uls;refine⟨fun i b=>i≠n∧V i b,⟨fun i T k els op M hi hM=>?_,fun i b hb=>Nat.lt_of_lt_of_le (hV.lt i b hb.2) e.size,fun i b hb=>hV.nz i b hb.2,fun i b hb=>hV.ow i b hb.2,fun i j b hb hc=>hV.inj i j b hb.2 hc.2,fun i nd' M j hi hM hp hb=>?_⟩⟩
  ·simp only[lk] at hi
   by_cases he:n=i
   ·subst he
    rw[if_pos rfl] at hi;cases hi;rw[hget] at hM;cases hM;obtain⟨F,h1,h2,h3⟩:=hu T k els op rfl;exact⟨F,fun i j b hb=>(h1 i j b hb).elim,h2,h3⟩
   ·rw[if_neg he] at hi
    obtain⟨M',k1,k2,k3⟩:=h.nds i _ hi;have:=BB [L] k1;rw[this] at hM;cases hM
    have h5:els=[]∨w'.heap[M.b]?=w.heap[M.b]?:=by
     rcases k2.ul_nil with h4 |h4
     ·exact .inl h4
     ·exact .inr (e.same _ (k3 h4).1)
    obtain⟨F,h1,h2,h3⟩:=(hV.at_ i T k els op M hi k1).on (e.le (fun _ _ h=>h) h.zlt) (fun b hb=>e.same b (hV.lt i b hb)) h5 [L];exact⟨F,fun i' j b hb=>⟨Ne.symm he,h1 i' j b hb⟩,h2,h3⟩
  ·simp only[lk] at hi
   by_cases he:n=i
   ·subst he
    rw[hget] at hM;cases hM;have:=hV.lt j _ hb.2;omega
   ·rw[if_neg he] at hi
    obtain⟨M',k1,k2,k3⟩:=h.nds i _ hi;have:=BB [L] k1;rw[this] at hM;cases hM;exact hV.kn i _ _ j hi k1 hp hb.2
end Go.AM
namespace Go.AM
open Go
inductive TK where
 |bool |int (k:IntKind) |str |ptr (e:Nat) |slice (e:Nat) |arr (n e:Nat) |map (k e:Nat) |struct (fs:List (Nat×Nat)) |func |ifc |other
structure TY where
 k:TK
 size:Nat
 bytes:Nat
 zero:Option (List Value)
def TK.agg:TK→Bool
 | .struct _ | .arr _ _=>true
 |_=>false
def Hi (P:Program)(T:TypeId):Nat:=match P.info? T with |some i=>i.size |none=>0
def HG (P:Program):TypeDesc→TK
 | .bool=> .bool
 | .int k=> .int k
 | .string=> .str
 | .pointer e=> .ptr e
 | .slice e=> .slice e
 | .array n e=> .arr n e
 | .map k e=> .map k e
 | .struct fs=> .struct (fs.toList.map fun f=>(f.offset,Hi P f.type))
 | .func _ _ _=> .func
 | .interface _=> .ifc
 |_=> .other
def Sp (P:Program):TypeDesc→Bool
 | .struct fs=>fs.toList.all fun f=>(P.info? f.type).isSome
 |_=>true
def AT (P:Program)(T:TypeId):Option TY:=
 match P.info? T,P.underlying T with
 |some i,some d=>if Sp P d=true then some ⟨HG P d,i.size,i.bytes,i.zero.map fun v=>v.cells.toList⟩ else none
 |_,_=>none
section
variable {P:Program} {T:TypeId} {y:TY} {w:World}
theorem Hf (h:AT P T=some y): ∃i d,P.info? T=some i∧P.underlying T=some d∧Sp P d=true∧y=⟨HG P d,i.size,i.bytes,i.zero.map fun v=>v.cells.toList⟩:=by
 unfold AT at h;split at h
 ·rename_i i d h1 h2
  split at h
  ·rename_i h3;cases h;exact⟨i,d,h1,h2,h3,rfl⟩
  ·cases h
 ·cases h
theorem BL (h:AT P T=some y): ∃i d,P.info? T=some i∧P.underlying T=some d∧y=⟨HG P d,i.size,i.bytes,i.zero.map fun v=>v.cells.toList⟩:=by
 obtain⟨i,d,h1,h2,_,h3⟩:=Hf h;exact⟨i,d,h1,h2,h3⟩
theorem CN {i:TypeInfo}(h:P.info? T=some i):(typeInfo T).run P w= .ok i w:=by
 simp[typeInfo,h]
theorem AE {d:TypeDesc}(h:P.underlying T=some d):(underlying T).run P w= .ok d w:=by
 simp[underlying,h]
theorem B9 (h:AT P T=some y):(sizeOf T).run P w= .ok y.size w:=by
 obtain⟨i,d,h1,h2,rfl⟩:=BL h;simp[sizeOf,CN h1]
theorem FD (h:AT P T=some y):(isAgg T).run P w= .ok y.k.agg w:=by
 obtain⟨i,d,h1,h2,rfl⟩:=BL h;simp only[isAgg,Sem.run_bind,AE h2,Result.andThen_ok]
 cases d<;>simp[HG,TK.agg]
theorem K_ (h:AT P T=some y)(hk:y.k= .bool):P.underlying T=some .bool:=by
 obtain⟨i,d,h1,h2,rfl⟩:=BL h;cases d<;>simp[HG] at hk;exact h2
theorem D_ {k:IntKind}(h:AT P T=some y)(hk:y.k= .int k):P.underlying T=some (.int k):=by
 obtain⟨i,d,h1,h2,rfl⟩:=BL h;cases d<;>simp[HG] at hk;subst hk;exact h2
theorem Dv (h:AT P T=some y)(hk:y.k= .str):P.underlying T=some .string:=by
 obtain⟨i,d,h1,h2,rfl⟩:=BL h;cases d<;>simp[HG] at hk;exact h2
theorem Aw {e:Nat}(h:AT P T=some y)(hk:y.k= .slice e):P.underlying T=some (.slice e):=by
 obtain⟨i,d,h1,h2,rfl⟩:=BL h;cases d<;>simp[HG] at hk;subst hk;exact h2
theorem Fs {n e:Nat}(h:AT P T=some y)(hk:y.k= .arr n e):P.underlying T=some (.array n e):=by
 obtain⟨i,d,h1,h2,rfl⟩:=BL h;cases d<;>simp[HG] at hk;obtain⟨rfl,rfl⟩:=hk;exact h2
theorem HP (h:AT P T=some y)(hk:y.k= .ifc): ∃ms,P.underlying T=some (.interface ms):=by
 obtain⟨i,d,h1,h2,rfl⟩:=BL h;cases d<;>simp[HG] at hk;exact⟨_,h2⟩
theorem Jj {n e:Nat}(h:AT P T=some y)(hk:y.k= .map n e):P.underlying T=some (.map n e):=by
 obtain⟨i,d,h1,h2,rfl⟩:=BL h;cases d<;>simp[HG] at hk;obtain⟨rfl,rfl⟩:=hk;exact h2
theorem He {fs:List (Nat×Nat)}(h:AT P T=some y)(hk:y.k= .struct fs): ∃gs:Array Field,P.underlying T=some (.struct gs)∧(fs=gs.toList.map fun f=>(f.offset,Hi P f.type))∧ ∀f ∈ gs.toList,(P.info? f.type).isSome=true:=by
 obtain⟨i,d,h1,h2,h3,rfl⟩:=Hf h
 cases d<;>simp only[HG] at hk<;>try cases hk
 rename_i gs;exact⟨gs,h2,rfl,List.all_eq_true.1 h3⟩
theorem KZ (h:AT P T=some y)(hk:y.k≠ .ifc): ∃d,P.underlying T=some d∧ ∀ms,d≠ .interface ms:=by
 obtain⟨i,d,h1,h2,rfl⟩:=BL h;exact⟨d,h2,fun ms e=>by subst e;exact hk rfl⟩
end
def ev (st:AS)(G:List (Nat×List Value)):Operand→Option AV
 | .tmp t=>lk st.m t
 | .const v=>some (.r v)
 | .global g=>(lk G g).map fun cs=> .re true (cs.map .r) 0
 | .func f=>some (.fn f [])
def Du (st:AS)(G:List (Nat×List Value)):List Operand→Option (List AV)
 | []=>some []
 |x::r=>match ev st G x,Du st G r with
  |some a,some l=>some (a::l)
  |_,_=>none
def unU:AV→AV
 | .u _ _ _=> .any
 |x=>x
def RC (op:List (Nat×Nat×AV))(i:Nat):Nat→List AV→List AV
 |_,[]=>[]
 |j,x::r=>(match EC op i j with
  |some y=>y
  |none=>unU x)::RC op i (j+1) r
def FQ (st:AS):AV→Option (List AV×Nat)
 | .re _ c off=>some (c,off)
 | .p n i off=>match lk st.o n with
   |some (.box _ c)=>if i=0 then some (c,off) else none
   |some (.lst _ _ els)=>(els[i]?).map fun e=>(e,off)
   |some (.ul _ _ els op)=>(els[i]?).map fun e=>(RC op i 0 e,off)
   |some (.mp _)=>none
   |none=>none
 |_=>none
def Gx (y:TY)(c:List AV)(off:Nat):Option AV:=
 if y.k.agg=true then (if off+y.size≤c.length then some (.agg ((c.drop off).take y.size)) else none)
 else c[off]?
def GZ (d:Nat):AV→Option AV
 | .re t c off=>some (.re t c (off+d))
 | .p n i off=>some (.p n i (off+d))
 |_=>none
def Ii:AV→Option Bool
 | .r (.bool x)=>some x
 |_=>none
def Jx (c:Bool)(a b:AV):AV:=match Ii a,Ii b with
 |some x,some y=> .r (.bool (bif c then x else y))
 |_,_=>bif c then a else b
def LA:AV→Option AV
 | .ro _ _ els=>some (.r (.int .i64 els.length))
 | .s _ _ len=>some (.r (.int .i64 len))
 | .r (.slice none 0 0)=>some (.r (.int .i64 0))
 |_=>none
def RJ (st:AS):AV→Option AV
 | .q n=>match lk st.o n with
   |some (.mp l)=>some (.r (.int .i64 l.length))
   |_=>none
 |_=>none
def Oq (st:AS)(x:AV):TK→Option AV
 | .slice _=>LA x
 | .map _ _=>RJ st x
 | .str=>match x with
   | .r (.string s)=>some (.r (.int .i64 s.size))
   |_=>none
 | .arr n _=>some (.r (.int .i64 n))
 |_=>none
def I_ (b:UInt8):List AV:=[.r (.int .u8 b.toNat)]
def SZ:List (List AV)→Option (List UInt8)
 | []=>some []
 | [.r (.int .u8 n)]::r=>match SZ r with
   |some l=>if n=(UInt8.ofNat n.toNat).toNat then some (UInt8.ofNat n.toNat::l) else none
   |none=>none
 |_::_=>none
def Ci (st:AS)(k:Nat):AV→Option (List (List AV))
 | .ro _ k' els=>if k'=k then some els else none
 | .s n lo len=>match lk st.o n with
   |some (.lst _ k' els)=>if k'=k∧lo+len≤els.length then some ((els.drop lo).take len) else none
   |_=>none
 | .r (.slice _ 0 _)=>some []
 |_=>none
def Tq (k:IntKind)(a b:Int):Int:=k.wrap (BitVec.ofInt k.bits a &&& BitVec.ofInt k.bits b).toNat
def VU (k:IntKind)(a b:Int):Int:=k.wrap (BitVec.ofInt k.bits a ||| BitVec.ofInt k.bits b).toNat
def Tp (k:IntKind)(a b:Int):Int:=k.wrap (BitVec.ofInt k.bits a ^^^ BitVec.ofInt k.bits b).toNat
def Sk (k:IntKind)(a b:Int):Int:=k.wrap (a * 2 ^ (min b.toNat k.bits))
def Sj (k:IntKind)(a b:Int):Int:=a.fdiv (2 ^ (min b.toNat k.bits))
def Q7:BinOp→IntKind→Int→Int→Option AV
 | .add,k,a,b=>some (.r (.int k (k.wrap (a+b))))
 | .sub,k,a,b=>some (.r (.int k (k.wrap (a - b))))
 | .mul,k,a,b=>some (.r (.int k (k.wrap (a * b))))
 | .quo,k,a,b=>if b=0 then none else some (.r (.int k (k.wrap (a.tdiv b))))
 | .rem,k,a,b=>if b=0 then none else some (.r (.int k (a.tmod b)))
 | .eql,_,a,b=>some (.r (.bool (a==b)))
 | .neq,_,a,b=>some (.r (.bool (a !=b)))
 | .lss,_,a,b=>some (.r (.bool (decide (a<b))))
 | .leq,_,a,b=>some (.r (.bool (decide (a≤b))))
 | .gtr,_,a,b=>some (.r (.bool (decide (a>b))))
 | .geq,_,a,b=>some (.r (.bool (decide (a≥b))))
 | .and,k,a,b=>some (.r (.int k (Tq k a b)))
 | .or,k,a,b=>some (.r (.int k (VU k a b)))
 | .xor,k,a,b=>some (.r (.int k (Tp k a b)))
 |_,_,_,_=>none
def U1:BinOp→IntKind→Int→Int→Option AV
 | .shl,k,a,b=>if b<0 then none else some (.r (.int k (Sk k a b)))
 | .shr,k,a,b=>if b<0 then none else some (.r (.int k (Sj k a b)))
 |_,_,_,_=>none
def T7:BinOp→Bool
 | .shl | .shr=>true
 |_=>false
def OH:BinOp→ByteArray→ByteArray→Option AV
 | .add,a,b=>if a.size+b.size≤9223372036854775807 then some (.r (.string (a++b))) else none
 | .eql,a,b=>some (.r (.bool (a.toList==b.toList)))
 | .neq,a,b=>some (.r (.bool (!(a.toList==b.toList))))
 | .lss,a,b=>some (.r (.bool (Op.bytesLess a.toList b.toList)))
 | .leq,a,b=>some (.r (.bool (Op.bytesLess a.toList b.toList||a.toList==b.toList)))
 | .gtr,a,b=>some (.r (.bool (!(Op.bytesLess a.toList b.toList||a.toList==b.toList))))
 | .geq,a,b=>some (.r (.bool (!Op.bytesLess a.toList b.toList)))
 |_,_,_=>none
def Pr:AV→Option Bool
 | .r (.slice a _ _)=>some a.isNone
 | .ro _ _ (_::_)=>some false
 | .s _ _ len=>if 0<len then some false else none
 |_=>none
def O2 (op:BinOp)(y:TY):AV→AV→Option AV
 | .r (.int k a),.r (.int k' b)=>if T7 op=true then U1 op k a b else if k=k' then Q7 op k a b else none
 | .r (.string a),.r (.string b)=>OH op a b
 | .r (.bool a),.r (.bool b)=>match y.k,op with
   | .bool,.eql=>some (.r (.bool (a==b)))
   | .bool,.neq=>some (.r (.bool (!(a==b))))
   |_,_=>none
 |x,.r (.slice none 0 0)=>match y.k,op,Pr x with
  | .slice _,.eql,some b=>some (.r (.bool b))
  | .slice _,.neq,some b=>some (.r (.bool (!b)))
  |_,_,_=>none
 |_,_=>none
def E1:Operand→Bool
 | .const .nilIface=>true
 |_=>false
def Nh (op:BinOp)(y:TY)(v:Value):Option AV:=
 match y.k,op,v with
 | .ifc,.eql,.nilIface=>some (.r (.bool true))
 | .ifc,.neq,.nilIface=>some (.r (.bool false))
 | .ifc,.eql,.iface _ _=>some (.r (.bool false))
 | .ifc,.neq,.iface _ _=>some (.r (.bool true))
 |_,_,_=>none
inductive ET where
 |prim (k:TK)
 |str (fs:List (Nat×Nat×ET))
mutual
def J3 (P:Program):Nat→TypeId→Option ET
 |0,_=>none
 |d+1,T=>match P.underlying T with
  |some (.int k)=>some (.prim (.int k))
  |some .string=>some (.prim .str)
  |some .bool=>some (.prim .bool)
  |some (.struct fs)=>if P.stoodInHeld T=true then none else (Nl P d fs.toList).map .str
  |_=>none
def Nl (P:Program):Nat→List Field→Option (List (Nat×Nat×ET))
 |_,[]=>some []
 |0,_::_=>none
 |d+1,f::fs=>if f.name= "_" then none else match J3 P d f.type,Nl P d fs,P.info? f.type with
  |some t,some l,some i=>some ((f.offset,i.size,t)::l)
  |_,_,_=>none
end
def IP (P:Program)(T:TypeId):Option ET:=if P.eqGuardType P.depth T=true then none else J3 P 200 T
def UV:TK→AV→AV→Option Bool
 | .int _,.r (.int k a),.r (.int k' b)=>if k=k' then some (a==b) else none
 | .str,.r (.string a),.r (.string b)=>some (a.toList==b.toList)
 | .bool,.r (.bool a),.r (.bool b)=>some (a==b)
 |_,_,_=>none
mutual
def RZ:ET→List AV→List AV→Option Bool
 | .prim k,[x],[y]=>UV k x y
 | .prim _,_,_=>none
 | .str fs,a,b=>KB fs a b
def KB:List (Nat×Nat×ET)→List AV→List AV→Option Bool
 | [],_,_=>some true
 |(o,s,t)::r,a,b=>match RZ t ((a.drop o).take s) ((b.drop o).take s),KB r a b with
  |some p,some q=>some (p&&q)
  |_,_=>none
end
def SJ (P:Program)(op:BinOp)(T:TypeId)(a b:List AV):Option AV:=
 match op,IP P T with
 | .eql,some (.str fs)=>(KB fs a b).map fun r=> .r (.bool r)
 | .neq,some (.str fs)=>(KB fs a b).map fun r=> .r (.bool (!r))
 |_,_=>none
def S_:UnOp→AV→Option AV
 | .not,.r (.bool b)=>some (.r (.bool (!b)))
 | .neg,.r (.int k n)=>some (.r (.int k (k.wrap (0 - n))))
 |_,_=>none
def Th (P:Program)(st:AS)(s d:TY):AV→Option AV
 | .r (.int _ n)=>match d.k with
   | .int k=>some (.r (.int k (k.wrap n)))
   |_=>none
 | .r (.string b)=>match s.k,d.k with
   | .str,.str=>some (.r (.string b))
   |_,_=>none
 |x=>match s.k,d.k with
  | .slice e,.str=>match AT P e,Ci st 1 x with
    |some ⟨.int .u8,_,_,_⟩,some els=>match SZ els with
     |some bs=>some (.r (.string ⟨bs.toArray⟩))
     |none=>none
    |_,_=>none
  |_,_=>none
def Qg (len:Nat):Option AV→Option Nat
 |none=>some len
 |some (.r (.int _ h))=>if 0≤h∧h≤len then some h.toNat else none
 |_=>none
def Qd (h:Nat):Option AV→Option Nat
 |none=>some 0
 |some (.r (.int _ l))=>if 0≤l∧l≤h then some l.toNat else none
 |_=>none
def QU (len:Nat)(lo hi:Option AV):Option (Nat×Nat):=
 match Qg len hi with
 |none=>none
 |some h=>(Qd h lo).map fun l=>(l,h)
def Sx (st:AS)(n:Nat):Option Nat:=match lk st.o n with
 |some (.lst _ k _)=>some k
 |some (.ul _ k _ _)=>some k
 |_=>none
def R3 (P:Program)(st:AS)(y:TY)(lo hi:Option AV):AV→Option AV
 | .r (.string s)=>match y.k with
   | .str=>(QU s.size lo hi).map fun(l,h)=> .r (.string (s.extract l h))
   |_=>none
 | .ro t k els=>match y.k with
   | .slice e=>match AT P e with
     |some ye=>if k=ye.size then (QU els.length lo hi).map fun(l,h)=> .ro t k ((els.take h).drop l) else none
     |none=>none
   |_=>none
 | .s n o len=>match y.k with
   | .slice e=>match AT P e,Sx st n with
     |some ye,some k=>if k=ye.size then (QU len lo hi).map fun(l,h)=> .s n (o+l) (h - l) else none
     |_,_=>none
   |_=>none
 | .r (.slice none 0 0)=>match y.k with
   | .slice e=>match AT P e with
     |some _=>(QU 0 lo hi).map fun _=> .r (.slice none 0 0)
     |none=>none
   |_=>none
 |_=>none
def OQ (P:Program)(st:AS)(y:TY)(lo:Option AV)(hi m:AV)(x:AV):Option AV:=
 match LA x,m,hi with
 |some (.r (.int _ n)),.r (.int _ mv),.r (.int _ hv)=>if 0≤mv∧mv≤n∧hv≤mv then R3 P st y lo (some hi) x else none
 |_,_,_=>none
def PG (x:AV):TK→Option AV
 | .slice _=>match x with
   | .r (.slice none 0 0)=>some (.r (.int .i64 0))
   |_=>none
 |_=>none
def T6 (st:AS)(P:Program)(y:TY)(i:Int)(x:AV):Option AV:=
 match y.k with
 | .slice e=>match AT P e,x with
   |some ye,.ro t k els=>if k=ye.size∧0≤i then (els[i.toNat]?).map fun c=> .re t c 0 else none
   |some ye,.s n lo len=>match Sx st n with
    |some k=>if k=ye.size∧0≤i∧i<len then some (.p n (lo+i.toNat) 0) else none
    |none=>none
   |_,_=>none
 | .arr m e=>match AT P e with
   |some ye=>if 0≤i∧i<m then GZ (i.toNat * ye.size) x else none
   |none=>none
 |_=>none
def T5 (P:Program)(y:TY)(i:Int)(x:AV):Option AV:=
 match y.k,x with
 | .str,.r (.string s)=>if 0≤i then (s[i.toNat]?).map fun b=> .r (.int .u8 b.toNat) else none
 | .arr m e,.agg c=>match AT P e with
   |some ye=>if 0≤i∧i<m then Gx ye c (i.toNat * ye.size) else none
   |none=>none
 |_,_=>none
def AV.cells:AV→List AV
 | .agg c=>c
 |x=>[x]
def splice (cs:List AV)(off:Nat)(new:List AV):List AV:=cs.take off++new++cs.drop (off+new.length)
def AV.okPart:AV→Bool
 | .r (.agg _) | .any=>false
 |_=>true
def G6 (place:Nat→Option (Nat×Nat))(cs:List AV):List (Nat×AV)→Option (List AV)
 | []=>some cs
 |(i,v)::r=>match place i with
  |none=>none
  |some (off,sz)=>if v.cells.length=sz∧off+sz≤cs.length∧v.okPart=true then G6 place (splice cs off v.cells) r else none
def EY (st:AS)(G:List (Nat×List Value)):List (Nat×Operand)→Option (List (Nat×AV))
 | []=>some []
 |(i,x)::r=>match ev st G x,EY st G r with
  |some a,some l=>some ((i,a)::l)
  |_,_=>none
def Cu (st:AS)(G:List (Nat×List Value)):Option Operand→Option (Option AV)
 |none=>some none
 |some x=>(ev st G x).map some
def Ol (P:Program)(st:AS)(n:Nat)(k e:TypeId)(kk:IntKind)(v:Int):Option AV:=match AT P k,AT P e,lk st.o n with
 |some ⟨.int .i64,_,_,_⟩,some ⟨_,_,_,some []⟩,some (.mp l)=>match kk with
  | .i64=>some (.tup [.agg [],.r (.bool (l.contains v))])
  |_=>none
 |_,_,_=>none
def L6 (P:Program)(st:AS):Option TY→Option AV→Option AV→Option AV
 |some ⟨.map k e,_,_,_⟩,some (.q n),some (.r (.int kk v))=>Ol P st n k e kk v
 |_,_,_=>none
def RG:List AV→Option AV
 | [.r (.int k a),.r (.int _ b)]=>some (.r (.int k (if b>a then b else a)))
 |_=>none
def Oj:Option (List AV)→Option AV
 |some l=>RG l
 |none=>none
def qv (P:Program)(G:List (Nat×List Value))(st:AS):Op→Option AV
 | .move x=>ev st G x
 | .assign x=>ev st G x
 | .pick c a b=>match ev st G c,ev st G a,ev st G b with
   |some (.r (.bool c)),some a,some b=>some (Jx c a b)
   |_,_,_=>none
 | .load T x=>match AT P T,ev st G x with
   |some y,some x=>match FQ st x with
    |some (c,off)=>Gx y c off
    |none=>none
   |_,_=>none
 | .nilCheck x=>match ev st G x with
   |some (.re t c off)=>some (.re t c off)
   |some (.p n i off)=>some (.p n i off)
   |some (.fn f c)=>some (.fn f c)
   |_=>none
 | .binOp op T x y _=>match E1 y with
   |true=>(match AT P T,ev st G x with
    |some ty,some (.r v)=>Nh op ty v
    |_,_=>none)
   |false=>(match AT P T,ev st G x,ev st G y with
    |some _,some (.agg a),some (.agg b)=>SJ P op T a b
    |some ty,some a,some b=>O2 op ty a b
    |_,_,_=>none)
 | .unOp op _ x=>match ev st G x with
   |some a=>S_ op a
   |none=>none
 | .convert s d x=>match AT P s,AT P d,ev st G x with
   |some s,some d,some x=>Th P st s d x
   |_,_,_=>none
 | .makeInterface T x=>match AT P T,ev st G x with
   |some ⟨.ifc,_,_,_⟩,_=>none
   |some _,some x=>some (.ifc T x)
   |_,_=>none
 | .makeFunc (.func f) first caps=>match first.toList,Du st G caps.toList with
   | [],some c=>some (.fn f c)
   |_,_=>none
 | .slice T x lo hi none=>match AT P T,ev st G x,Cu st G lo,Cu st G hi with
   |some y,some x,some lo,some hi=>R3 P st y lo hi x
   |_,_,_,_=>none
 | .slice T x lo (some hi) (some m)=>match AT P T,ev st G x,Cu st G lo,ev st G hi,ev st G m with
   |some y,some x,some lo,some hi,some m=>OQ P st y lo hi m x
   |_,_,_,_,_=>none
 | .fieldAddr T x f=>match AT P T,ev st G x with
   |some ⟨.struct fs,_,_,_⟩,some x=>match fs[f]? with
    |some (off,sz)=>if sz=0 then none else GZ off x
    |none=>none
   |_,_=>none
 | .indexAddr T x i=>match AT P T,ev st G x,ev st G i with
   |some y,some x,some (.r (.int _ i))=>T6 st P y i x
   |_,_,_=>none
 | .index T x i=>match AT P T,ev st G x,ev st G i with
   |some y,some x,some (.r (.int _ i))=>T5 P y i x
   |_,_,_=>none
 | .lookup T x i true=>L6 P st (AT P T) (ev st G x) (ev st G i)
 | .extract t i=>match ev st G t with
   |some (.tup c)=>c[i]?
   |_=>none
 | .build T parts=>match AT P T,EY st G parts.toList with
   |some ⟨.struct fs,_,_,some z⟩,some l=>(G6 (fs[·]?) (z.map .r) l).map .agg
   |some ⟨.arr _ e,_,_,some z⟩,some l=>match AT P e with
    |some ye=>(G6 (fun i=>some (i * ye.size,ye.size)) (z.map .r) l).map .agg
    |none=>none
   |_,_=>none
 | .call {callee:= .builtin .len,args,argTypes}=>match Du st G args.toList,argTypes[0]? with
   |some [x],some T=>match AT P T with
    |some y=>Oq st x y.k
    |none=>none
   |_,_=>none
 | .call {callee:= .builtin .max,args,..}=>Oj (Du st G args.toList)
 | .call {callee:= .builtin .cap,args,argTypes}=>match Du st G args.toList,argTypes[0]? with
   |some [x],some T=>match AT P T with
    |some y=>PG x y.k
    |none=>none
   |_,_=>none
 |_=>none
end Go.AM
namespace Go.AM
open Go
section
variable {P:Program} {E:Env} {N:Nat} {st:AS} {th:List NLoc} {z:Ag} {a:Act} {w:World}
theorem AN (h:Sim E N st th z a w){x:Operand}{av:AV}(he:ev st E.G x=some av):Rep w z th av (a.eval x):=by
 cases x with
 |tmp t=>
  obtain⟨y,hy,hr⟩:=h.slots t av he;simp only[Act.eval];rw[Array.getD_eq_getD_getElem?,hy];exact hr
 |const v=>simp only[ev,Option.some.injEq] at he;subst he;exact .r _ v
 |global g=>
  simp only[ev,Option.map_eq_some_iff] at he;obtain⟨cs,hc,rfl⟩:=he
  have hm:(g,cs) ∈ E.G:=by
   generalize E.G=G at hc
   induction G with
   |nil=>simp[lk] at hc
   |cons p r ih=>
    obtain⟨i,c⟩:=p;simp only[lk] at hc;split at hc
    ·rename_i e;subst e;cases hc;simp
    ·exact List.mem_cons_of_mem _ (ih hc)
  obtain⟨h1,h2⟩:=h.mem.globs g cs hm
  have:=Rep.re (w:=w) (z:=z) th true (cs.map .r) g 0 0 (fun j=>cs.getD j undef) h1 (fun j x hx=>by
   simp only[List.getElem?_map,Option.map_eq_some_iff] at hx;obtain⟨v,hv,rfl⟩:=hx
   simpa[List.getD,hv] using h2 j v hv) (fun j x hx=>by
   simp only[List.getElem?_map,Option.map_eq_some_iff] at hx;obtain⟨v,hv,rfl⟩:=hx
   simp only[List.getD,hv,Option.getD_some];exact .r _ v)
  simpa[Act.eval] using this
 |func f=>simp only[ev,Option.some.injEq] at he;subst he;exact .fn th f [] [] rfl (fun i x y h=>by simp at h)
theorem Bs (h:Sim E N st th z a w): ∀ {l:List Operand}{c:List AV},Du st E.G l=some c→Reps w z th c (l.map a.eval)
 | [],c,he=>by simp only[Du,Option.some.injEq] at he;subst he;exact .nil
 |x::r,c,he=>by
  simp only[Du] at he;split at he
  ·rename_i x1 c1 h1 h2;cases he;exact .cons (AN h h1) (Bs h h2)
  ·cases he
theorem Rep.agg_inv {x:Value}{c:List AV}(h:Rep w z th (.agg c) x): ∃ys:List Value,x= .agg ys.toArray∧Reps w z th c ys:=by
 cases h with |agg _ _ ys hl hx=>exact⟨ys,rfl,hl,hx⟩
theorem Rep.tup_inv {x:Value}{c:List AV}(h:Rep w z th (.tup c) x): ∃ys:List Value,x= .tuple ys.toArray∧Reps w z th c ys:=by
 cases h with |tup _ _ ys hl hx=>exact⟨ys,rfl,hl,hx⟩
theorem Rep.r_inv {x v:Value}(h:Rep w z th (.r v) x):x=v:=by cases h;rfl
theorem Rep.s_inv {x:Value}{n lo len:Nat}(h:Rep w z th (.s n lo len) x): ∃L,th[n]?=some L∧((L.ph=true∧len=0∧x= .slice none 0 0)∨(L.ph=false∧ ∃c o,x= .slice (some ⟨L.b,o,none⟩) len c∧len≤c∧lo+c≤L.cap∧(0<c→o=L.o+lo * L.k))):=by
 cases h with
 |s _ _ _ _ c o L hL hp hl hc hx=>exact⟨L,hL,.inr ⟨hp,c,o,rfl,hl,hc,hx⟩⟩
 |sn _ _ _ L hL hp=>exact⟨L,hL,.inl ⟨hp,rfl,rfl⟩⟩
theorem Rep.q_inv {x:Value}{n:Nat}(h:Rep w z th (.q n) x): ∃L,th[n]?=some L∧x= .map (some L.b):=by
 cases h with |q _ _ L hL=>exact⟨L,hL,rfl⟩
theorem Mg (op:List (Nat×Nat×AV))(i:Nat): ∀(c:List AV)(j k:Nat)(x:AV),(RC op i j c)[k]?=some x→ ∃y,c[k]?=some y∧((EC op i (j+k)=some x)∨(EC op i (j+k)=none∧x=unU y))
 | [],j,k,x,h=>by simp[RC] at h
 |y::r,j,0,x,h=>by
  simp only[RC,List.getElem?_cons_zero,Option.some.injEq] at h;refine⟨y,rfl,?_⟩;split at h
  ·rename_i h1;subst h;exact .inl h1
  ·rename_i h1;exact .inr ⟨h1,h.symm⟩
 |y::r,j,k+1,x,h=>by
  simp only[RC,List.getElem?_cons_succ] at h;obtain⟨y',h1,h2⟩:=Mg op i r (j+1) k x h;exact⟨y',by simpa using h1,by rw[show j+(k+1)=j+1+k by omega];exact h2⟩
theorem UC.unU {f:Nat→Prop}{x:AV}{v:Value}(h:UC w z f x v)(th:List NLoc):Rep w z th (unU x) v:=by
 cases h with
 |r _ _ _ h=>cases x<;>first |exact h.pure th |exact .any _ _
 |n _ T k=>exact .any _ _
 |u _ T k els b o c cells fr F ys hb hf hl hs hfb hF hd hk hy h1 hx=>exact .any _ _
theorem Rep.p_inv {x:Value}{n i off:Nat}(h:Rep w z th (.p n i off) x): ∃L,th[n]?=some L∧x= .pointer (some ⟨L.b,L.o+i * L.k+off,none⟩):=by
 cases h with |p _ _ _ _ L hL=>exact⟨L,hL,rfl⟩
theorem Rep.ro_inv {x:Value}{t:Bool}{k:Nat}{els:List (List AV)}(h:Rep w z th (.ro t k els) x): ∃ad c,x= .slice ad els.length c∧els.length≤c∧(els=[]∨ ∃b o,ad=some ⟨b,o,none⟩∧z t b∧
  ∀(i:Nat)(e:List AV),els[i]?=some e→e.length=k∧ ∀(j:Nat)(x:AV),e[j]?=some x→ ∃y,w.cell? ⟨b,o+i * k+j,none⟩=some y∧Rep w z [] x y∧y.oneCell'=true):=by
 cases h with
 |nil _ _ _ ad c=>exact⟨ad,c,rfl,Nat.zero_le _,.inl rfl⟩
 |ro _ _ _ _ b o c ys hz hc hk hy h1 hx=>exact⟨_,c,rfl,hc,.inr ⟨b,o,rfl,hz,fun i e he=>⟨hk i e he,fun j x hj=>⟨_,hy i e j x he hj,hx i e j x he hj,h1 i e j x he hj⟩⟩⟩⟩
theorem Rep.ro_mk {t:Bool}{els:List (List AV)}{b o k c:Nat}(hz:z t b)(hc:els.length≤c)
  (h: ∀(i:Nat)(e:List AV),els[i]?=some e→e.length=k∧ ∀(j:Nat)(x:AV),e[j]?=some x→ ∃y,w.cell? ⟨b,o+i * k+j,none⟩=some y∧Rep w z [] x y∧y.oneCell'=true):Rep w z th (.ro t k els) (.slice (some ⟨b,o,none⟩) els.length c):=by
 refine .ro th t k els b o c (fun i j=>(w.cell? ⟨b,o+i * k+j,none⟩).getD undef) hz hc (fun i e he=>(h i e he).1) (fun i e j x he hj=>?_) (fun i e j x he hj=>?_) (fun i e j x he hj=>?_)
 ·obtain⟨y,hy,_⟩:=(h i e he).2 j x hj;simp[hy]
 ·obtain⟨y,hy,_,h1⟩:=(h i e he).2 j x hj;simpa[hy] using h1
 ·obtain⟨y,hy,hr,_⟩:=(h i e he).2 j x hj;simpa[hy] using hr
theorem Rep.re_mk {t:Bool}{c:List AV}{b o off:Nat}(hz:z t b)(h: ∀(j:Nat)(x:AV),c[j]?=some x→ ∃y,w.cell? ⟨b,o+j,none⟩=some y∧Rep w z [] x y):Rep w z th (.re t c off) (.pointer (some ⟨b,o+off,none⟩)):=by
 refine .re th t c b o off (fun j=>(w.cell? ⟨b,o+j,none⟩).getD undef) hz (fun j x hj=>?_) (fun j x hj=>?_)
 ·obtain⟨y,hy,_⟩:=h j x hj;simp[hy]
 ·obtain⟨y,hy,hr⟩:=h j x hj;simpa[hy] using hr
theorem Rep.re_inv {x:Value}{t:Bool}{c:List AV}{off:Nat}(h:Rep w z th (.re t c off) x): ∃b o,x= .pointer (some ⟨b,o+off,none⟩)∧z t b∧ ∀(j:Nat)(x:AV),c[j]?=some x→ ∃y,w.cell? ⟨b,o+j,none⟩=some y∧Rep w z [] x y:=by
 cases h with
 |re _ _ _ b o _ ys hz hy hx=>exact⟨b,o,rfl,hz,fun j x hj=>⟨_,hy j x hj,hx j x hj⟩⟩
theorem CB {b o:Nat}{cells:Array Value}{T:TypeId}{fr:Nat×Nat}(h:w.heap[b]?=some (.cells cells T fr)):w.cell? ⟨b,o,none⟩=cells[o]?:=by
 simp[World.cell?,h]
theorem ME {b:Nat}{cells:Array Value}{T:TypeId}{fr:Nat×Nat}(h:w.heap[b]?=some (.cells cells T fr))(hf:Ly cells fr){o:Nat}(ho:o<cells.size+1):w.frozen? ⟨b,o,none⟩=false:=by
 obtain⟨lo,hi⟩:=fr;simp only[World.frozen?,h];have:=hf o ho;simp only[Bool.and_eq_false_iff,decide_eq_false_iff_not];simp only at this;omega
theorem Gd {b o:Nat}{cells:Array Value}{T:TypeId}{fr:Nat×Nat}(h:w.heap[b]?=some (.cells cells T fr))(hf:Ly cells fr)(ho:o<cells.size):w.frozen? ⟨b,o,none⟩=false:=ME h hf (Nat.lt_succ_of_lt ho)
theorem I6 {n k:Nat}(h:Sx st n=some k): ∃nd,lk st.o n=some nd∧ ∀(w:World)(z:Ag)(th:List NLoc)(L:NLoc),NdAt w z th L nd→L.ph=true∨L.k=k:=by
 unfold Sx at h;split at h
 ·rename_i T k els hl
  cases h;refine⟨_,hl,fun w z th L hn=>?_⟩
  rcases hn with ⟨hp,_⟩ |⟨_,cells,fr,_,_,hk,_⟩
  ·exact .inl hp
  ·exact .inr hk
 ·rename_i T k els op hl
  cases h;refine⟨_,hl,fun w z th L hn=>?_⟩
  rcases hn with ⟨hp,_⟩ |⟨_,cells,fr,_,_,hk,_⟩
  ·exact .inl hp
  ·exact .inr hk
 ·cases h
def Kn (st:AS)(th:List NLoc)(z:Ag)(b:Nat):Prop:=(∃t,z t b)∨ ∃n nd L,lk st.o n=some nd∧th[n]?=some L∧L.ph=false∧L.b=b
theorem Kn.lt (h:Sim E N st th z a w){b:Nat}(hb:Kn st th z b):b<w.heap.size:=by
 rcases hb with ⟨t,hz⟩ |⟨n,nd,L,h1,h2,h3,rfl⟩
 ·exact h.mem.zlt _ _ hz
 ·obtain⟨L',k1,_,k3⟩:=h.mem.nds n nd h1
  rw[h2] at k1;cases k1;exact(k3 h3).1
def SameK (st:AS)(th:List NLoc)(z:Ag)(w w':World):Prop:= ∀b,Kn st th z b→w'.heap[b]?=w.heap[b]?
theorem Ext.sameK (h:Sim E N st th z a w){w':World}(e:Ext w w'):SameK st th z w w':=fun b hb=>e.same b (hb.lt h)
theorem SameK.refl:SameK st th z w w:=fun _ _=>rfl
theorem Fc (h:Sim E N st th z a w){x:AV}{v:Value}(hr:Rep w z th x v){c:List AV}{off:Nat}(hc:FQ st x=some (c,off)):
  ∃b o,v= .pointer (some ⟨b,o+off,none⟩)∧Kn st th z b∧ ∀(j:Nat)(x:AV),c[j]?=some x→ ∃y,w.cell? ⟨b,o+j,none⟩=some y∧Rep w z th x y:=by
 unfold FQ at hc;split at hc
 ·cases hc
  obtain⟨b,o,rfl,hz,hy⟩:=hr.re_inv;exact⟨b,o,rfl,.inl ⟨_,hz⟩,fun j x hj=>let ⟨y,h1,h2⟩:=hy j x hj;⟨y,h1,h2.pure th⟩⟩
 ·rename_i n i off
  obtain⟨L,hL,rfl⟩:=hr.p_inv;split at hc
  ·rename_i T c1 ho
   split at hc
   ·rename_i hi;cases hc;subst hi
    obtain⟨L',h1,⟨hp,cells,fr,h2,h3,h4,h5⟩,h6⟩:=h.mem.nds _ _ ho;rw[hL] at h1;cases h1;refine⟨L.b,0,by simp[h4],.inr ⟨_,_,L,ho,hL,hp,rfl⟩,fun j x hj=>?_⟩;obtain⟨y,hy,hr⟩:=h5.get hj;exact⟨y,by rw[CB h2];simpa using hy,hr⟩
   ·cases hc
  ·rename_i T k els ho
   simp only[Option.map_eq_some_iff] at hc;obtain⟨e,he,hh⟩:=hc;cases hh;obtain⟨L',h1,hnd,h8⟩:=h.mem.nds _ _ ho;rw[hL] at h1;cases h1
   rcases hnd with ⟨_,hn⟩ |⟨hp,cells,fr,h2,h3,h4,h5,h6,h7⟩
   ·subst hn;simp at he
   refine⟨L.b,L.o+i * L.k,rfl,.inr ⟨_,_,L,ho,hL,hp,rfl⟩,fun j x hj=>?_⟩;obtain⟨y,hy,hr,_⟩:=(h7 i _ he).2 j x hj;exact⟨y,by rw[CB h2];exact hy,hr.pure th⟩
  ·rename_i T k els op ho
   simp only[Option.map_eq_some_iff] at hc;obtain⟨e,he,hh⟩:=hc;cases hh;obtain⟨L',h1,hnd,h8⟩:=h.mem.nds _ _ ho;rw[hL] at h1;cases h1
   rcases hnd with ⟨_,hn⟩ |⟨hp,_⟩
   ·subst hn;simp at he
   obtain⟨U,hU⟩:=h.mem.uls;obtain⟨F,_,_,h9⟩:=hU.at_ _ _ _ _ _ _ ho hL;refine⟨L.b,L.o+i * L.k,rfl,.inr ⟨_,_,L,ho,hL,hp,rfl⟩,fun j x hj=>?_⟩;obtain⟨x0,hx0,hcase⟩:=Mg op i e 0 j x hj;rw[Nat.zero_add] at hcase;obtain⟨y,hy,_,hcu⟩:=h9 i e he j x0 hx0;refine⟨y,hy,?_⟩;unfold CellU at hcu
   rcases hcase with hcase |⟨hcase,rfl⟩
   ·rw[hcase] at hcu;exact hcu
   ·rw[hcase] at hcu;exact hcu.unU th
  ·cases hc
  ·cases hc
 ·cases hc
theorem Ce (b o d:Nat):(⟨b,o,none⟩:Addr).add d=⟨b,o+d,none⟩:=by unfold Addr.add;split<;>simp_all
theorem Gv {T:TypeId}{y:TY}(hT:AT P T=some y){b o off:Nat}{c:List AV}{x:AV}(hp:Gx y c off=some x)(hs:y.k.agg=false→y.size=1∨True)
  (hc: ∀(j:Nat)(x:AV),c[j]?=some x→ ∃u,w.cell? ⟨b,o+j,none⟩=some u∧Rep w z th x u):
  ∃v,Rep w z th x v∧ ∀w',(∀o,w'.cell? ⟨b,o,none⟩=w.cell? ⟨b,o,none⟩)→(loadVar T ⟨b,o+off,none⟩).run P w'= .ok v w':=by
 unfold Gx at hp;split at hp
 ·rename_i hk
  split at hp
  ·rename_i hle;cases hp
   have hall: ∀j,j<y.size→ ∃u x,((c.drop off).take y.size)[j]?=some x∧w.cell? ⟨b,o+off+j,none⟩=some u∧Rep w z th x u:=by
    intro j hj
    have hl:off+j<c.length:=by omega
    obtain⟨u,hu,hr⟩:=hc (off+j) c[off+j] (by simp[hl]);exact⟨u,c[off+j],by rw[List.getElem?_take_of_lt hj,List.getElem?_drop];simp[hl],by rw[Nat.add_assoc];exact hu,hr⟩
   refine⟨.agg ((List.range y.size).map fun j=>(w.cell? ⟨b,o+off+j,none⟩).getD undef).toArray,.agg th _ _ (by simp;omega) (fun i x u hx hu=>?_),fun w' hw'=>?_⟩
   ·have hi:i<y.size:=by
     have:=(List.getElem?_eq_some_iff.1 hx).1;simp at this;omega
    obtain⟨u',x',h1,h2,h3⟩:=hall i hi;rw[hx] at h1;cases h1;simp only[List.getElem?_map,List.getElem?_range hi,Option.map_some,h2,Option.getD_some,Option.some.injEq] at hu;subst hu;exact h3
   ·simp only[loadVar,Sem.run_bind,FD hT,hk,Result.andThen_ok,if_true,B9 hT]
    rw[run_loadCells w' _ _ (fun j=>(w.cell? ⟨b,o+off+j,none⟩).getD undef) (fun j hj=>by
     obtain⟨u,x,_,h2,_⟩:=hall j hj
     rw[Ce,hw',h2];rfl)]
    rfl
  ·cases hp
 ·rename_i hk
  obtain⟨u,hu,hr⟩:=hc off x hp;refine⟨u,hr,fun w' hw'=>?_⟩
  have hk':y.k.agg=false:=by simpa using hk
  simp only[loadVar,Sem.run_bind,FD hT,hk',Result.andThen_ok,run_load];simp[hw',hu]
theorem LI {w':World}(e:SameK st th z w w'){b:Nat}(hb:Kn st th z b)(o:Nat):w'.cell? ⟨b,o,none⟩=w.cell? ⟨b,o,none⟩:=CX (e b hb) o
end
end Go.AM
namespace Go.AM
open Go
section
variable {P:Program} {E:Env} {N:Nat} {st:AS} {th:List NLoc} {z:Ag} {a:Act} {w:World}
theorem H9 (op:BinOp)(T:TypeId)(X Y:Operand)(k k':IntKind)(x y:Int)(w:World):(eqGuard op T X Y (.int k x) (.int k' y)).run P w= .ok () w:=by
 cases op<;>simp[eqGuard]
theorem LK (op:BinOp)(T:TypeId)(X Y:Operand)(x y:ByteArray)(w:World):(eqGuard op T X Y (.string x) (.string y)).run P w= .ok () w:=by
 cases op<;>simp[eqGuard]
theorem GA (op:BinOp)(T:TypeId)(X Y:Operand)(x y:Bool)(w:World):(eqGuard op T X Y (.bool x) (.bool y)).run P w= .ok () w:=by
 cases op<;>simp[eqGuard]
theorem FZ (op:BinOp)(T:TypeId)(X Y:Operand)(a b:Option Addr)(l m c d:Nat)(w:World):(eqGuard op T X Y (.slice a l c) (.slice b m d)).run P w= .ok () w:=by
 cases op<;>simp[eqGuard]
theorem MB {op:BinOp}{k:IntKind}{x y:Int}{r:AV}(hq:Q7 op k x y=some r)(T:TypeId)(w:World): ∃v,r= .r v∧ ∀w,(binOp op T (.int k x) (.int k y)).run P w= .ok v w:=by
 cases op<;>simp only[Q7] at hq<;>first
  |(cases hq;done)
  |(split at hq<;>cases hq;rename_i hb;exact⟨_,rfl,fun w=>by simp[binOp,Op.intDiv,hb]⟩)
  |(cases hq;refine⟨_,rfl,fun w=>?_⟩;simp only[binOp,ne_eq,not_true_eq_false,if_false];rfl)
  |(cases hq;refine⟨_,rfl,fun w=>?_⟩;simp[binOp,Op.intArith,Op.intCmp,Tq,VU,Tp];done)
theorem NB {op:BinOp}{k k':IntKind}{x y:Int}{r:AV}(hq:U1 op k x y=some r)(T:TypeId)(w:World): ∃v,r= .r v∧ ∀w,(binOp op T (.int k x) (.int k' y)).run P w= .ok v w:=by
 cases op<;>simp only[U1] at hq<;>first
  |(cases hq;done)
  |(split at hq<;>cases hq;rename_i hb;exact⟨_,rfl,fun w=>by simp[binOp,Op.shift,hb,Sk,Sj]⟩)
theorem Lk {op:BinOp}{x y:ByteArray}{r:AV}(hq:OH op x y=some r)(T:TypeId): ∃v,r= .r v∧ ∀w,(binOp op T (.string x) (.string y)).run P w= .ok v w:=by
 cases op
 case add=>
  simp only[OH] at hq;split at hq
  ·rename_i hb
   simp only[Option.some.injEq] at hq;subst hq;refine⟨_,rfl,fun w=>?_⟩
   have: ¬(((x.size+y.size:Nat):Int)>IntKind.i64.max):=by
    have:IntKind.i64.max=9223372036854775807:=by decide
    omega
   simp only[binOp,Op.stringOp,this,if_false,Sem.run_pure]
  ·cases hq
 all_goals
  simp only[OH] at hq
  first
   |(cases hq;done)
   |(cases hq;exact⟨_,rfl,fun w=>by simp[binOp,Op.stringOp]⟩)
theorem Hz {x:AV}{v:Value}{b:Bool}(h:Rep w z th x v)(hn:Pr x=some b): ∃ad l c,v= .slice ad l c∧ad.isNone=b:=by
 unfold Pr at hn;split at hn
 ·cases hn;have:=h.r_inv;subst this;exact⟨_,_,_,rfl,rfl⟩
 ·cases hn
  obtain⟨ad,c,rfl,_,h1 |⟨b,o,rfl,_⟩⟩:=h.ro_inv
  ·cases h1
  ·exact⟨_,_,_,rfl,rfl⟩
 ·split at hn
  ·rename_i hpos;cases hn
   obtain⟨L,_,⟨_,h0,_⟩ |⟨_,c,o,rfl,_⟩⟩:=h.s_inv
   ·omega
   ·exact⟨_,_,_,rfl,rfl⟩
  ·cases hn
 ·cases hn
theorem JO {T e:TypeId}(hu:P.underlying T=some (.slice e))(ad:Option Addr)(l c:Nat)(w:World):(Op.equal T (.slice ad l c) (.slice none 0 0)).run P w= .ok ad.isNone w:=by
 have e:Op.equal T (.slice ad l c) (.slice none 0 0)=Op.equalIn (9999+1) T (.slice ad l c) (.slice none 0 0):=rfl;rw[e,Op.equalIn]
 cases ad<;>simp[AE hu]
theorem IQ {T:TypeId}(hu:P.underlying T=some .bool)(x y:Bool)(w:World):(Op.equal T (.bool x) (.bool y)).run P w= .ok (x==y) w:=by
 have e:Op.equal T (.bool x) (.bool y)=Op.equalIn (9999+1) T (.bool x) (.bool y):=rfl;rw[e,Op.equalIn];simp[AE hu]
theorem Nm {k:TK}{x y:AV}{u v:Value}{r:Bool}(hx:Rep w z th x u)(hy:Rep w z th y v)(h:UV k x y=some r){T:TypeId}{d:TypeDesc}(hu:P.underlying T=some d)(hk:(∃k',k= .int k'∧d= .int k')∨(k= .str∧d= .string)∨(k= .bool∧d= .bool))(D:Nat)(w':World):(Op.equalIn (D+1) T u v).run P w'= .ok r w':=by
 unfold UV at h;split at h
 ·obtain rfl:=hx.r_inv;obtain rfl:=hy.r_inv
  split at h
  ·rename_i hkk;subst hkk;cases h
   rcases hk with ⟨k',_,rfl⟩ |⟨h1,_⟩ |⟨h1,_⟩
   ·exact run_equalIn_int w' D T _ k' _ _ hu
   ·cases h1
   ·cases h1
  ·cases h
 ·obtain rfl:=hx.r_inv;obtain rfl:=hy.r_inv;cases h
  rcases hk with ⟨k',h1,_⟩ |⟨_,rfl⟩ |⟨h1,_⟩
  ·cases h1
  ·exact run_equalIn_string w' D T _ _ hu
  ·cases h1
 ·obtain rfl:=hx.r_inv;obtain rfl:=hy.r_inv;cases h
  rcases hk with ⟨k',h1,_⟩ |⟨h1,_⟩ |⟨_,rfl⟩
  ·cases h1
  ·cases h1
  ·exact run_equalIn_bool' w' D T _ _ hu
 ·cases h
def Im (P:Program)(T:TypeId)(xs:Array Value)(v:Value):Prop:=(∃fs,P.underlying T=some (.struct fs)∧v= .agg xs)∨((∃d,P.underlying T=some d∧((∃k,d= .int k)∨d= .string∨d= .bool))∧xs= #[v])
def MA:TypeDesc→Bool
 | .struct _ | .array _ _=>true
 |_=>false
theorem Hx {T:TypeId}{i:TypeInfo}{d:TypeDesc}(hi:P.info? T=some i)(hu:P.underlying T=some d)(hd:(∃fs,d= .struct fs)∨(∃k,d= .int k)∨d= .string∨d= .bool)(xs:Array Value)(o:Nat)(hl:(¬ ∃fs,d= .struct fs)→(xs.extract o (o+i.size)).size=1)(w':World):
  ∃v,(part T xs o).run P w'= .ok v w'∧Im P T (xs.extract o (o+i.size)) v:=by
 have ha:(isAgg T).run P w'= .ok (MA d) w':=by
  simp only[isAgg,Sem.run_bind,Go.AM.AE hu,Result.andThen_ok];cases d<;>rfl
 have hsz:(sizeOf T).run P w'= .ok i.size w':=by simp[sizeOf,CN hi]
 by_cases hs: ∃fs,d= .struct fs
 ·obtain⟨fs,rfl⟩:=hs
  refine⟨.agg (xs.extract o (o+i.size)),?_,.inl ⟨fs,hu,rfl⟩⟩;simp only[part,Sem.run_bind,ha,Result.andThen_ok,MA,if_true,hsz,Sem.run_pure]
 ·have h1:=hl hs
  have hd':(∃k,d= .int k)∨d= .string∨d= .bool:=hd.resolve_left hs
  have hag:MA d=false:=by rcases hd' with ⟨k,rfl⟩ |rfl |rfl<;>rfl
  simp only[Array.size_extract] at h1;obtain⟨v,hv⟩: ∃v,xs[o]?=some v:=⟨xs[o],by simp[show o<xs.size by omega]⟩;refine⟨v,?_,.inr ⟨⟨d,hu,hd'⟩,?_⟩⟩
  ·simp only[part,Sem.run_bind,ha,Result.andThen_ok,hag,Bool.false_eq_true,if_false,hv,Sem.run_pure]
  ·apply Array.ext'
   have:o<xs.size:=by omega
   have hlen:(xs.extract o (o+i.size)).toList.length=1:=by simp;omega
   obtain⟨u,hu'⟩:=List.length_eq_one_iff.1 hlen
   have h0:(xs.extract o (o+i.size)).toList[0]?=some u:=by rw[hu'];rfl
   rw[hu'];rw[Array.toList_extract,List.extract_eq_take_drop,List.getElem?_take_of_lt (by omega),List.getElem?_drop] at h0;simp[hv] at h0;rw[h0]
mutual
theorem JP: ∀(d:Nat){T:TypeId}{t:ET},J3 P d T=some t→ ∀(a b:List AV)(xs ys:Array Value)(u v:Value)(r:Bool),Reps w z th a xs.toList→Reps w z th b ys.toList→Im P T xs u→Im P T ys v→RZ t a b=some r→ ∀(D:Nat),d≤D→ ∀w',(Op.equalIn D T u v).run P w'= .ok r w'
 |0,T,t,h=>by simp[J3] at h
 |d+1,T,t,h=>by
  intro a b xs ys u v r ha hb hu hv hq D hD w';obtain⟨D,rfl⟩: ∃D',D=D'+1:=⟨D - 1,by omega⟩
  have prim: ∀ {k:TK}{dd:TypeDesc},P.underlying T=some dd→(¬ ∃fs,dd= .struct fs)→t= .prim k→((∃k',k= .int k'∧dd= .int k')∨(k= .str∧dd= .string)∨(k= .bool∧dd= .bool))→(Op.equalIn (D+1) T u v).run P w'= .ok r w':=by
   intro k dd hud hns ht hk;subst ht
   have one: ∀ {xs:Array Value}{u:Value},Im P T xs u→xs= #[u]:=by
    rintro xs u (⟨fs,h1,_⟩ |⟨_,h2⟩)
    ·rw[hud] at h1;cases h1;exact(hns ⟨_,rfl⟩).elim
    ·exact h2
   obtain rfl:=one hu;obtain rfl:=one hv;unfold RZ at hq;split at hq
   ·rename_i k' x y he;cases he
    have hx:Rep w z th x u:=ha.2 0 x u rfl rfl;have hy:Rep w z th y v:=hb.2 0 y v rfl rfl;exact Nm hx hy hq hud hk D w'
   ·cases hq
   ·rename_i he;cases he
  unfold J3 at h;split at h
  ·rename_i k hk;cases h;exact prim hk (by rintro⟨_,h⟩;cases h) rfl (.inl ⟨k,rfl,rfl⟩)
  ·rename_i hk;cases h;exact prim hk (by rintro⟨_,h⟩;cases h) rfl (.inr (.inl ⟨rfl,rfl⟩))
  ·rename_i hk;cases h;exact prim hk (by rintro⟨_,h⟩;cases h) rfl (.inr (.inr ⟨rfl,rfl⟩))
  ·rename_i fs hk
   split at h
   ·cases h
   ·rename_i hst
    simp only[Option.map_eq_some_iff] at h;obtain⟨l,hl,rfl⟩:=h;simp only[RZ] at hq
    have whole: ∀ {xs:Array Value}{u:Value},Im P T xs u→u= .agg xs:=by
     rintro xs u (⟨fs,h1,h2⟩ |⟨⟨dd,h1,h2⟩,_⟩)
     ·exact h2
     ·rw[hk] at h1;cases h1;rcases h2 with ⟨_,h⟩ |h |h<;>cases h
    obtain rfl:=whole hu;obtain rfl:=whole hv
    have hf:P.fieldsOf T=fs:=by simp[Program.fieldsOf,hk]
    rw[run_equalIn_struct w' D T xs ys (by rw[hf];exact hk) (by simpa using hst),hf];exact IR d hl _ _ _ _ _ ha hb hq D (by omega) w'
  ·cases h
theorem IR: ∀(d:Nat){fs:List Field}{l:List (Nat×Nat×ET)},Nl P d fs=some l→ ∀(a b:List AV)(xs ys:Array Value)(r:Bool),Reps w z th a xs.toList→Reps w z th b ys.toList→KB l a b=some r→ ∀(D:Nat),d≤D→ ∀w',(Op.eqFields D xs ys fs).run P w'= .ok r w'
 |d,[],l,h=>by
  intro a b xs ys r ha hb hq D hD w'
  have:l=[]:=by cases d<;>(unfold Nl at h;simpa using h.symm)
  subst this;simp only[KB] at hq;cases hq;simp[Op.eqFields]
 |0,f::fs,l,h=>by simp[Nl] at h
 |d+1,f::fs,l,h=>by
  intro a b xs ys r ha hb hq D hD w';unfold Nl at h;split at h
  ·cases h
  ·rename_i hname
   split at h
   ·rename_i t l' i h1 h2 h3
    cases h;simp only[KB] at hq;split at hq
    ·rename_i p q hp hq'
     cases hq
     have hda:Reps w z th ((a.drop f.offset).take i.size) (xs.extract f.offset (f.offset+i.size)).toList:=by
      have:=(ha.drop f.offset).take i.size;simpa[Array.toList_extract,List.extract_eq_take_drop] using this
     have hdb:Reps w z th ((b.drop f.offset).take i.size) (ys.extract f.offset (f.offset+i.size)).toList:=by
      have:=(hb.drop f.offset).take i.size;simpa[Array.toList_extract,List.extract_eq_take_drop] using this
     obtain⟨dd,hud,hdd⟩: ∃dd,P.underlying f.type=some dd∧((∃fs,dd= .struct fs)∨(∃k,dd= .int k)∨dd= .string∨dd= .bool):=by
      cases d with
      |zero=>simp[J3] at h1
      |succ d=>
       unfold J3 at h1;split at h1
       ·rename_i k hk;exact⟨_,hk,.inr (.inl ⟨k,rfl⟩)⟩
       ·rename_i hk;exact⟨_,hk,.inr (.inr (.inl rfl))⟩
       ·rename_i hk;exact⟨_,hk,.inr (.inr (.inr rfl))⟩
       ·rename_i fs hk;exact⟨_,hk,.inl ⟨fs,rfl⟩⟩
       ·cases h1
     have hone:(¬ ∃fs,dd= .struct fs)→((a.drop f.offset).take i.size).length=1∧((b.drop f.offset).take i.size).length=1:=by
      intro hns
      have ht: ∃k,t= .prim k:=by
       cases d with
       |zero=>simp[J3] at h1
       |succ d=>
        unfold J3 at h1;rw[hud] at h1
        rcases hdd with hh |⟨k,rfl⟩ |rfl |rfl
        ·exact(hns hh).elim
        ·exact⟨_,(Option.some.inj h1).symm⟩
        ·exact⟨_,(Option.some.inj h1).symm⟩
        ·exact⟨_,(Option.some.inj h1).symm⟩
      obtain⟨k,rfl⟩:=ht;unfold RZ at hp;split at hp
      ·rename_i x y he e1 e2;rw[e1,e2];exact⟨rfl,rfl⟩
      ·cases hp
      ·rename_i he;cases he
     obtain⟨u,hu1,hu2⟩:=Hx h3 hud hdd xs f.offset (fun hns=>by have:=hda.1;rw[(hone hns).1,Array.length_toList] at this;exact this) w';obtain⟨v,hv1,hv2⟩:=Hx h3 hud hdd ys f.offset (fun hns=>by have:=hdb.1;rw[(hone hns).2,Array.length_toList] at this;exact this) w';have he:=JP d h1 _ _ _ _ _ _ _ hda hdb hu2 hv2 hp D (by omega) w';have hr:=IR d h2 _ _ _ _ _ ha hb hq' D (by omega) w';simp only[Op.eqFields,ne_eq,hname,not_false_eq_true,if_true,Sem.run_bind,hu1,hv1,he,Result.andThen_ok,Sem.run_ite]
     cases p<;>simp[hr]
    ·cases hq
   ·cases h
end
theorem Nn {op:BinOp}{T:TypeId}{y:TY}(hT:AT P T=some y){a b:List AV}{r:AV}{v1 v2:Value}(h1:Rep w z th (.agg a) v1)(h2:Rep w z th (.agg b) v2)(hq:SJ P op T a b=some r)(X Y:Operand):
  ∃v,Rep w z th r v∧ ∀w',(do eqGuard op T X Y v1 v2;binOp op T v1 v2:Sem Value).run P w'= .ok v w':=by
 obtain⟨xs,rfl,hx⟩:=h1.agg_inv;obtain⟨ys,rfl,hy⟩:=h2.agg_inv
 have main: ∀ {fs:List (Nat×Nat×ET)}{q:Bool},IP P T=some (.str fs)→KB fs a b=some q→(∀w',(eqGuard op T X Y (.agg xs.toArray) (.agg ys.toArray)).run P w'= .ok () w')∧ ∀w',(Op.equalIn 10000 T (.agg xs.toArray) (.agg ys.toArray)).run P w'= .ok q w':=by
  intro fs q ht hq;unfold IP at ht;split at ht
  ·cases ht
  rename_i hg
  have hg':P.eqGuardType P.depth T=false:=by simpa using hg
  refine⟨fun w'=>?_,fun w'=>?_⟩
  ·cases op<;>simp[eqGuard,hg']
  ·have hu: ∃gs,P.underlying T=some (.struct gs):=by
    unfold J3 at ht;split at ht
    ·cases ht
    ·cases ht
    ·cases ht
    ·rename_i gs hk;exact⟨gs,hk⟩
    ·cases ht
   obtain⟨gs,hu⟩:=hu;exact JP 200 ht a b xs.toArray ys.toArray _ _ q hx hy (.inl ⟨gs,hu,rfl⟩) (.inl ⟨gs,hu,rfl⟩) (by simpa only[RZ] using hq) 10000 (by omega) w'
 unfold SJ at hq;split at hq
 ·rename_i fs ht
  simp only[Option.map_eq_some_iff] at hq;obtain⟨q,hq,rfl⟩:=hq;obtain⟨m1,m2⟩:=main ht hq;exact⟨_,.r th _,fun w'=>by rw[Sem.run_bind,m1,Result.andThen_ok,run_eql_struct,m2];rfl⟩
 ·rename_i fs ht
  simp only[Option.map_eq_some_iff] at hq;obtain⟨q,hq,rfl⟩:=hq;obtain⟨m1,m2⟩:=main ht hq;exact⟨_,.r th _,fun w'=>by rw[Sem.run_bind,m1,Result.andThen_ok,run_neq_struct,m2];rfl⟩
 ·cases hq
theorem MY {op:BinOp}{T:TypeId}{y:TY}(hT:AT P T=some y){x1 x2 r:AV}{v1 v2:Value}(h1:Rep w z th x1 v1)(h2:Rep w z th x2 v2)(hq:O2 op y x1 x2=some r)(X Y:Operand):
  ∃v,Rep w z th r v∧ ∀w',(do eqGuard op T X Y v1 v2;binOp op T v1 v2:Sem Value).run P w'= .ok v w':=by
 unfold O2 at hq;split at hq
 ·rename_i k x k' y'
  obtain rfl:=h1.r_inv;obtain rfl:=h2.r_inv;split at hq
  ·obtain⟨v,rfl,hv⟩:=NB (P:=P) (k':=k') hq T w
   exact⟨v,.r th v,fun w'=>by simp only[Sem.run_bind,H9,Result.andThen_ok,hv]⟩
  split at hq
  ·rename_i hk;subst hk
   obtain⟨v,rfl,hv⟩:=MB (P:=P) hq T w;exact⟨v,.r th v,fun w'=>by simp only[Sem.run_bind,H9,Result.andThen_ok,hv]⟩
  ·cases hq
 ·rename_i x y'
  obtain rfl:=h1.r_inv;obtain rfl:=h2.r_inv;obtain⟨v,rfl,hv⟩:=Lk (P:=P) hq T;exact⟨v,.r th v,fun w'=>by simp only[Sem.run_bind,LK,Result.andThen_ok,hv]⟩
 ·rename_i x y'
  obtain rfl:=h1.r_inv;obtain rfl:=h2.r_inv;split at hq
  ·rename_i hk;cases hq
   exact⟨_,.r th _,fun w'=>by simp only[Sem.run_bind,GA,Result.andThen_ok,binOp,IQ (K_ hT hk),Sem.run_pure]⟩
  ·rename_i hk;cases hq
   exact⟨_,.r th _,fun w'=>by simp only[Sem.run_bind,GA,Result.andThen_ok,binOp,IQ (K_ hT hk),Sem.run_pure]⟩
  ·cases hq
 ·obtain rfl:=h2.r_inv
  split at hq
  ·rename_i hk hn;cases hq
   obtain⟨ad,l,c,rfl,rfl⟩:=Hz h1 hn;exact⟨_,.r th _,fun w'=>by simp only[Sem.run_bind,FZ,Result.andThen_ok,binOp,JO (Aw hT hk),Sem.run_pure]⟩
  ·rename_i hk hn;cases hq
   obtain⟨ad,l,c,rfl,rfl⟩:=Hz h1 hn;exact⟨_,.r th _,fun w'=>by simp only[Sem.run_bind,FZ,Result.andThen_ok,binOp,JO (Aw hT hk),Sem.run_pure]⟩
  ·cases hq
 ·cases hq
theorem M9 {Y:Operand}(h:E1 Y=true):Y= .const .nilIface:=by
 unfold E1 at h;split at h
 ·rfl
 ·cases h
theorem FM {T:TypeId}{ms:Array (String×TypeId)}(hu:P.underlying T=some (.interface ms))(w:World):(Op.equal T .nilIface .nilIface).run P w= .ok true w∧ ∀t v,(Op.equal T (.iface t v) .nilIface).run P w= .ok false w:=by
 have e: ∀a,Op.equal T a .nilIface=Op.equalIn (9999+1) T a .nilIface:=fun _=>rfl;refine⟨?_,fun t v=>?_⟩
 ·rw[e,Op.equalIn];simp[AE hu]
 ·rw[e,Op.equalIn];simp[AE hu]
theorem MC {op:BinOp}{T:TypeId}{y:TY}(hT:AT P T=some y){v:Value}{r:AV}(hq:Nh op y v=some r):
  ∃u,r= .r u∧ ∀(X:Operand) w',(do eqGuard op T X (.const .nilIface) v .nilIface;binOp op T v .nilIface:Sem Value).run P w'= .ok u w':=by
 unfold Nh at hq;split at hq
 ·rename_i hk;cases hq;obtain⟨ms,hu⟩:=HP hT hk
  exact⟨_,rfl,fun X w'=>by simp[eqGuard,binOp,(FM hu w').1]⟩
 ·rename_i hk;cases hq;obtain⟨ms,hu⟩:=HP hT hk
  exact⟨_,rfl,fun X w'=>by simp[eqGuard,binOp,(FM hu w').1]⟩
 ·rename_i hk;cases hq;obtain⟨ms,hu⟩:=HP hT hk
  exact⟨_,rfl,fun X w'=>by simp[eqGuard,binOp,(FM hu w').2]⟩
 ·rename_i hk;cases hq;obtain⟨ms,hu⟩:=HP hT hk
  exact⟨_,rfl,fun X w'=>by simp[eqGuard,binOp,(FM hu w').2]⟩
 ·cases hq
theorem N5 {op:UnOp}{x r:AV}{v:Value}(h:Rep w z th x v)(hq:S_ op x=some r): ∃u,Rep w z th r u∧ ∀w',(Op.unary op v).run P w'= .ok u w':=by
 unfold S_ at hq;split at hq
 ·cases hq;obtain rfl:=h.r_inv;exact⟨_,.r th _,fun w'=>by simp[Op.unary]⟩
 ·cases hq;obtain rfl:=h.r_inv;exact⟨_,.r th _,fun w'=>by simp[Op.unary,Op.intArith]⟩
 ·cases hq
theorem F_ (h:Sim E N st th z a w){x:AV}{v:Value}(hr:Rep w z th x v){k:Nat}{els:List (List AV)}(he:Ci st k x=some els):
  ∃ad c,v= .slice ad els.length c∧els.length≤c∧(els=[]∨ ∃b o,ad=some ⟨b,o,none⟩∧b<w.heap.size∧Kn st th z b∧
   ∀(i:Nat)(e:List AV),els[i]?=some e→e.length=k∧ ∀(j:Nat)(x:AV),e[j]?=some x→ ∃y,w.cell? ⟨b,o+i * k+j,none⟩=some y∧Rep w z [] x y∧y.oneCell'=true):=by
 unfold Ci at he;split at he
 ·split at he
  ·rename_i hk;subst hk;cases he
   obtain⟨ad,c,rfl,hc,h1 |⟨b,o,rfl,hz,h2⟩⟩:=hr.ro_inv
   ·exact⟨ad,c,rfl,hc,.inl h1⟩
   ·exact⟨_,c,rfl,hc,.inr ⟨b,o,rfl,h.mem.zlt _ _ hz,.inl ⟨_,hz⟩,h2⟩⟩
  ·cases he
 ·rename_i n lo len
  obtain⟨L,hL,hcase⟩:=hr.s_inv;split at he
  ·rename_i T k' l hn
   split at he
   ·rename_i hle;obtain⟨rfl,hle⟩:=hle;cases he
    have hlen:((l.drop lo).take len).length=len:=by simp;omega
    rcases hcase with ⟨_,rfl,rfl⟩ |⟨hp,c,o,rfl,hl,hcap,ho⟩
    ·exact⟨none,0,by simp,by simp,.inl (by simp)⟩
    refine⟨_,c,by rw[hlen],by rw[hlen];exact hl,?_⟩;obtain⟨L',h1,hnd,h8⟩:=h.mem.nds _ _ hn;rw[hL] at h1;cases h1
    rcases hnd with ⟨hp',_⟩ |⟨_,cells,fr,h2,h3,h4,h5,h6,h7⟩
    ·rw[hp] at hp';cases hp'
    by_cases hz:len=0
    ·left;subst hz;simp
    ·right
     have ho:=ho (by omega);subst ho;refine⟨L.b,_,rfl,(h8 hp).1,.inr ⟨n,_,L,hn,hL,hp,rfl⟩,fun i e hi=>?_⟩;rw[List.getElem?_take] at hi;split at hi
     ·rw[List.getElem?_drop] at hi
      obtain⟨k1,k2⟩:=h7 _ _ hi;refine⟨k1.trans h4,fun j x hj=>?_⟩;obtain⟨y,hy,hr⟩:=k2 j x hj;refine⟨y,?_,hr⟩;rw[CB h2,←h4,show L.o+lo * L.k+i * L.k+j=L.o+(lo+i) * L.k+j by rw[Nat.add_mul];omega];exact hy
     ·cases hi
   ·cases he
  ·cases he
 ·cases he;obtain rfl:=hr.r_inv;exact⟨_,_,rfl,Nat.zero_le _,.inl rfl⟩
 ·cases he
theorem Ka: ∀ {els:List (List AV)}{bs:List UInt8},SZ els=some bs→els=bs.map I_
 | [],bs,h=>by simp only[SZ,Option.some.injEq] at h;subst h;rfl
 |e::r,bs,h=>by
  unfold SZ at h;split at h
  ·cases h;rename_i hh;cases hh
  ·rename_i n r' hh
   cases hh;split at h
   ·rename_i l hl
    split at h
    ·rename_i hn;cases h
     have:=Ka hl;rw[this,List.map_cons];simp only[I_];rw[←hn]
    ·cases h
   ·cases h
  ·cases h
theorem Nu (h:Sim E N st th z a w){S D:TypeId}{s d:TY}(hS:AT P S=some s)(hD:AT P D=some d){x r:AV}{v:Value}(hr:Rep w z th x v)(hq:Th P st s d x=some r):
  ∃u,Rep w z th r u∧ ∀w',SameK st th z w w'→(convert S D v).run P w'= .ok u w':=by
 unfold Th at hq;split at hq
 ·obtain rfl:=hr.r_inv
  split at hq
  ·rename_i k hk;cases hq
   obtain⟨i,dd,_,hu,_⟩:=BL hS;refine⟨_,.r th _,fun w' _=>?_⟩;simp only[convert,Sem.run_bind,AE hu,AE (D_ hD hk),Result.andThen_ok];simp[Conv.intToInt]
  ·cases hq
 ·obtain rfl:=hr.r_inv
  split at hq
  ·rename_i hk1 hk2;cases hq
   refine⟨_,.r th _,fun w' _=>?_⟩;simp[convert,AE (Dv hS hk1),AE (Dv hD hk2)]
  ·cases hq
 ·split at hq
  ·rename_i e hk1 hk2
   split at hq
   ·rename_i sz by' ze els he hel
    split at hq
    ·rename_i bs hb;cases hq
     have hb:=Ka hb;obtain⟨ad,c,rfl,hc,hcell⟩:=F_ h hr hel;refine⟨_,.r th _,fun w' ew=>?_⟩
     have hl:els.length=bs.length:=by rw[hb];simp
     cases ad with
     |none=>
      have hn:els=[]:=by
       rcases hcell with h1 |⟨b,o,h1,_⟩
       ·exact h1
       ·cases h1
      have:bs=[]:=by rw[hn] at hl;exact List.length_eq_zero_iff.1 (by simpa using hl.symm)
      subst this;rw[run_convert_bytes_string w' S D e none _ c (Aw hS hk1) (D_ he rfl) (Dv hD hk2)];simp[Conv.bytesToString]
      rfl
     |some ad=>
      rw[hl];refine run_convert_bytes_back w' S D e ad c bs (Aw hS hk1) (D_ he rfl) (Dv hD hk2) (fun j hj=>?_)
      rcases hcell with h1 |⟨b,o,h1,_,hlt,h2⟩
      ·rw[h1] at hl;simp at hl;omega
      ·cases h1
       obtain⟨_,h3⟩:=h2 j (I_ bs[j]) (by rw[hb];simp[hj]);obtain⟨y,hy,hr,_⟩:=h3 0 _ rfl;have:=hr.r_inv;subst this;rw[Ce,LI ew hlt];simpa using hy
    ·cases hq
   ·cases hq
  ·cases hq
end
end Go.AM
namespace Go.AM
open Go
section
variable {P:Program} {E:Env} {N:Nat} {st:AS} {th:List NLoc} {z:Ag} {a:Act} {w:World}
theorem CE {k:IntKind}{i:Int}{y:Nat}{c:BoundsCode}(h0:0≤i)(h1:i≤y)(w:World):(Instr.sliceBound (.int k i) y c).run P w= .ok i.toNat w:=by
 simp[Instr.sliceBound,asIntOf,h0,h1]
theorem Ni (h:Sim E N st th z a w){hi:Option Operand}{hi':Option AV}(hh:Cu st E.G hi=some hi'){len q:Nat}(hb:Qg len hi'=some q)(E0:Bool){cap:Nat}(hc:len≤cap):
  q≤len∧ ∀w',(match hi.map a.eval,(none:Option Value) with |some v,some _=>Instr.sliceBound v cap .slice3B |some v,none=>Instr.sliceBound v cap (if E0 then .sliceAcap else .sliceAlen) |none,none=>pure len |none,some _=>stuck "Slice: max without high" :Sem Nat).run P w'= .ok q w':=by
 cases hi with
 |none=>
  simp only[Cu,Option.some.injEq] at hh;subst hh;simp only[Qg,Option.some.injEq] at hb;subst hb;exact⟨Nat.le_refl _,fun w'=>rfl⟩
 |some x=>
  simp only[Cu,Option.map_eq_some_iff] at hh;obtain⟨av,he,rfl⟩:=hh;have hr:=AN h he;unfold Qg at hb;split at hb
  ·rename_i hx;cases hx
  ·rename_i k hv hx
   simp only[Option.some.injEq] at hx;subst hx;split at hb
   ·rename_i hc';cases hb
    have:=hr.r_inv;refine⟨by omega,fun w'=>?_⟩;simp only[Option.map_some,this];exact CE hc'.1 (by omega) w'
   ·cases hb
  ·cases hb
theorem EL (h:Sim E N st th z a w){lo hi:Option Operand}{lo' hi':Option AV}(hl:Cu st E.G lo=some lo')(hh:Cu st E.G hi=some hi'){len l r:Nat}(hb:QU len lo' hi'=some (l,r))(E0:Bool){cap:Nat}(hc:len≤cap):
  l≤r∧r≤len∧ ∀w',(Instr.sliceBounds E0 len cap (lo.map a.eval) (hi.map a.eval) none).run P w'= .ok (l,r,cap) w':=by
 unfold QU at hb;split at hb
 ·cases hb
 rename_i q hq;obtain⟨hqle,hrun⟩:=Ni (P:=P) h hh hq E0 hc;simp only[Option.map_eq_some_iff,Prod.mk.injEq] at hb;obtain⟨l',hl',rfl,rfl⟩:=hb
 cases lo with
 |none=>
  simp only[Cu,Option.some.injEq] at hl;subst hl;simp only[Qd,Option.some.injEq] at hl';subst hl';refine⟨Nat.zero_le _,hqle,fun w'=>?_⟩;have hr':=hrun w';clear hrun
  cases hi with
  |none=>simp at hr';subst hr';simp[Instr.sliceBounds]
  |some x=>simp only[Option.map_some] at hr';simp[Instr.sliceBounds,hr']
 |some x=>
  simp only[Cu,Option.map_eq_some_iff] at hl;obtain⟨av,he,rfl⟩:=hl;have hr:=AN h he;unfold Qd at hl';split at hl'
  ·rename_i hx;cases hx
  ·rename_i k lv hx
   simp only[Option.some.injEq] at hx;subst hx;split at hl'
   ·rename_i hc';cases hl'
    have:=hr.r_inv;refine⟨by omega,hqle,fun w'=>?_⟩;have hr':=hrun w';clear hrun
    cases hi with
    |none=>simp at hr';subst hr';simp[Instr.sliceBounds,this,CE hc'.1 hc'.2]
    |some x=>simp only[Option.map_some] at hr';simp[Instr.sliceBounds,hr',this,CE hc'.1 hc'.2]
   ·cases hl'
  ·cases hl'
theorem NA (h:Sim E N st th z a w){T:TypeId}{y:TY}(hT:AT P T=some y){x r:AV}{v:Value}(hr:Rep w z th x v){lo hi:Option Operand}{lo' hi':Option AV}(hl:Cu st E.G lo=some lo')(hh:Cu st E.G hi=some hi')
  (hq:R3 P st y lo' hi' x=some r): ∃u,Rep w z th r u∧ ∀w',SameK st th z w w'→(Instr.sliceAt T v (lo.map a.eval) (hi.map a.eval) none).run P w'= .ok u w':=by
 unfold R3 at hq;split at hq
 ·obtain rfl:=hr.r_inv
  split at hq
  ·rename_i hk
   simp only[Option.map_eq_some_iff] at hq;obtain⟨⟨l,q⟩,hb,rfl⟩:=hq;obtain⟨h1,h2,h3⟩:=EL (P:=P) h hl hh hb false (Nat.le_refl _);refine⟨_,.r th _,fun w' _=>?_⟩;simp[Instr.sliceAt,Instr.slice,AE (Dv hT hk),h3]
  ·cases hq
 ·rename_i t k els
  split at hq
  ·rename_i e hk
   split at hq
   ·rename_i ye he
    split at hq
    ·rename_i hke;subst hke
     simp only[Option.map_eq_some_iff] at hq;obtain⟨⟨l,q⟩,hb,rfl⟩:=hq;obtain⟨ad,c,rfl,hc,hcell⟩:=hr.ro_inv;obtain⟨h1,h2,h3⟩:=EL (P:=P) h hl hh hb true hc
     have hlen:((els.take q).drop l).length=q - l:=by simp;omega
     refine⟨.slice (if c=l then ad else ad.map (·.add (l * ye.size))) (q - l) (c - l),?_,fun w' _=>?_⟩
     ·by_cases hz:q - l=0
      ·have:(els.take q).drop l=[]:=List.length_eq_zero_iff.1 (by omega)
       simp only[this,hz];exact .nil _ _ _ _ _
      ·rcases hcell with hn |⟨b,o,rfl,hzb,hcell⟩
       ·subst hn;simp at h2;omega
       ·rw[if_neg (by omega)]
        simp only[Option.map_some,Ce];rw[←hlen];refine Rep.ro_mk hzb (by rw[hlen];omega) (fun i e' he'=>?_);rw[List.getElem?_drop,List.getElem?_take] at he';split at he'
        ·obtain⟨k1,k2⟩:=hcell _ _ he'
         refine⟨k1,fun j x hj=>?_⟩;obtain⟨y,hy,hr⟩:=k2 j x hj;exact⟨y,by rw[show o+l * ye.size+i * ye.size+j=o+(l+i) * ye.size+j by rw[Nat.add_mul];omega];exact hy,hr⟩
        ·cases he'
     ·simp[Instr.sliceAt,Instr.slice,AE (Aw hT hk),h3,B9 he]
    ·cases hq
   ·cases hq
  ·cases hq
 ·rename_i n lo0 len
  split at hq
  ·rename_i e hk
   split at hq
   ·rename_i ye k' he hn0
    split at hq
    ·rename_i hke;subst hke
     obtain⟨nd,hn,hkN⟩:=I6 hn0;simp only[Option.map_eq_some_iff] at hq;obtain⟨⟨l,q⟩,hb,rfl⟩:=hq;obtain⟨L,hL,hcase⟩:=hr.s_inv;obtain⟨L',h1',hnd,_⟩:=h.mem.nds _ _ hn;rw[hL] at h1';cases h1'
     rcases hcase with ⟨hp,rfl,rfl⟩ |⟨hp,c,o,rfl,hlc,hcap,ho⟩
     ·obtain⟨h1,h2,h3⟩:=EL (P:=P) h hl hh hb true (Nat.le_refl 0)
      obtain rfl:l=0:=by omega
      obtain rfl:q=0:=by omega
      refine⟨.slice none 0 0,.sn th n _ L hL hp,fun w' _=>?_⟩;simp[Instr.sliceAt,Instr.slice,AE (Aw hT hk),h3,B9 he]
     obtain⟨h1,h2,h3⟩:=EL (P:=P) h hl hh hb true hlc;have hkk:L.k=ye.size:=(hkN _ _ _ _ hnd).resolve_left (by rw[hp];exact Bool.false_ne_true);refine⟨.slice (some (if c=l then ⟨L.b,o,none⟩ else ⟨L.b,o+l * ye.size,none⟩)) (q - l) (c - l),?_,fun w' _=>?_⟩
     ·by_cases hcl:c=l
      ·rw[if_pos hcl]
       exact .s th n _ _ _ o L hL hp (by omega) (by omega) (fun hh=>by omega)
      ·rw[if_neg hcl]
       refine .s th n _ _ _ _ L hL hp (by omega) (by omega) (fun hh=>?_);have:=ho (by omega);subst this;rw[←hkk,Nat.add_mul,Nat.add_assoc]
     ·simp[Instr.sliceAt,Instr.slice,AE (Aw hT hk),h3,B9 he,Ce]
      split<;>rfl
    ·cases hq
   ·cases hq
  ·cases hq
 ·obtain rfl:=hr.r_inv
  split at hq
  ·rename_i e hk
   split at hq
   ·rename_i ye he
    simp only[Option.map_eq_some_iff] at hq;obtain⟨⟨l,q⟩,hb,rfl⟩:=hq;obtain⟨h1,h2,h3⟩:=EL (P:=P) h hl hh hb true (Nat.le_refl 0)
    obtain rfl:l=0:=by omega
    obtain rfl:q=0:=by omega
    refine⟨_,.r th _,fun w' _=>?_⟩;simp only[Instr.sliceAt,Instr.slice,Sem.run_bind,AE (Aw hT hk),h3,Result.andThen_ok];simp[B9 he]
   ·cases hq
  ·cases hq
 ·cases hq
theorem Ec (h:Sim E N st th z a w){lo:Option Operand}{hi m:Operand}{lo':Option AV}{kh km:IntKind}{hv mv:Int}(hl:Cu st E.G lo=some lo')(hh:ev st E.G hi=some (.r (.int kh hv)))(hm:ev st E.G m=some (.r (.int km mv)))
  {len l r:Nat} (hb:QU len lo' (some (.r (.int kh hv)))=some (l,r)) (h0:0≤mv) (h1:mv≤len) (h2:hv≤mv) {cap:Nat} (hc:len≤cap):
  l≤r∧(r:Int)≤mv∧ ∀w',(Instr.sliceBounds true len cap (lo.map a.eval) (some (a.eval hi)) (some (a.eval m))).run P w'= .ok (l,r,mv.toNat) w':=by
 have eh:=(AN h hh).r_inv;have em:=(AN h hm).r_inv;unfold QU at hb;split at hb
 ·cases hb
 rename_i q hq;simp only[Qg] at hq;split at hq
 ·rename_i hc'
  simp only[Option.some.injEq] at hq;subst hq;simp only[Option.map_eq_some_iff,Prod.mk.injEq] at hb;obtain⟨l',hl',rfl,rfl⟩:=hb
  have e1: ∀w',(Instr.sliceBound (a.eval m) cap .slice3Acap).run P w'= .ok mv.toNat w':=fun w'=>by rw[em];exact CE h0 (by omega) w'
  have e2: ∀w',(Instr.sliceBound (a.eval hi) mv.toNat .slice3B).run P w'= .ok hv.toNat w':=fun w'=>by rw[eh];exact CE hc'.1 (by omega) w'
  cases lo with
  |none=>
   simp only[Cu,Option.some.injEq] at hl;subst hl;simp only[Qd,Option.some.injEq] at hl';subst hl';refine⟨Nat.zero_le _,by omega,fun w'=>?_⟩;simp[Instr.sliceBounds,e1,e2]
  |some x=>
   simp only[Cu,Option.map_eq_some_iff] at hl;obtain⟨av,he,rfl⟩:=hl;have hr:=AN h he;unfold Qd at hl';split at hl'
   ·rename_i hx;cases hx
   ·rename_i k lv hx
    simp only[Option.some.injEq] at hx;subst hx;split at hl'
    ·rename_i hc2;cases hl'
     have:=hr.r_inv;refine⟨by omega,by omega,fun w'=>?_⟩;simp[Instr.sliceBounds,e1,e2,this,CE hc2.1 hc2.2]
    ·cases hl'
   ·cases hl'
 ·cases hq
theorem Lq (h:Sim E N st th z a w){T:TypeId}{y:TY}(hT:AT P T=some y){x r:AV}{v:Value}(hr:Rep w z th x v){lo:Option Operand}{hi m:Operand}{lo':Option AV}{hi' m':AV}(hl:Cu st E.G lo=some lo')(hh:ev st E.G hi=some hi')(hm:ev st E.G m=some m')
  (hq:OQ P st y lo' hi' m' x=some r): ∃u,Rep w z th r u∧ ∀w',SameK st th z w w'→(Instr.sliceAt T v (lo.map a.eval) (some (a.eval hi)) (some (a.eval m))).run P w'= .ok u w':=by
 unfold OQ at hq;split at hq
 case h_2=>cases hq
 rename_i ni mi hii kn nn km mv kh hv hlen;split at hq
 case isFalse=>cases hq
 rename_i hcond;obtain⟨hm0,hm1,hm2⟩:=hcond;unfold R3 at hq;split at hq
 ·rename_i s;simp[LA] at hlen
 ·rename_i t k els
  simp only[LA,Option.some.injEq,AV.r.injEq,Value.int.injEq] at hlen;obtain⟨rfl,rfl⟩:=hlen;split at hq
  ·rename_i e hk
   split at hq
   ·rename_i ye he
    split at hq
    ·rename_i hke;subst hke
     simp only[Option.map_eq_some_iff] at hq;obtain⟨⟨l,q⟩,hb,rfl⟩:=hq;obtain⟨ad,c,rfl,hc,hcell⟩:=hr.ro_inv;obtain⟨h1,h2,h3⟩:=Ec (P:=P) h hl hh hm hb hm0 hm1 hm2 hc
     have hlen:((els.take q).drop l).length=q - l:=by simp;omega
     refine⟨.slice (if mv.toNat=l then ad else ad.map (·.add (l * ye.size))) (q - l) (mv.toNat - l),?_,fun w' _=>?_⟩
     ·by_cases hz:q - l=0
      ·have:(els.take q).drop l=[]:=List.length_eq_zero_iff.1 (by omega)
       simp only[this,hz];exact .nil _ _ _ _ _
      ·rcases hcell with hn |⟨b,o,rfl,hzb,hcell⟩
       ·subst hn;simp at hm1;omega
       ·rw[if_neg (by omega)]
        simp only[Option.map_some,Ce];rw[←hlen];refine Rep.ro_mk hzb (by rw[hlen];omega) (fun i e' he'=>?_);rw[List.getElem?_drop,List.getElem?_take] at he';split at he'
        ·obtain⟨k1,k2⟩:=hcell _ _ he'
         refine⟨k1,fun j x hj=>?_⟩;obtain⟨y,hy,hr⟩:=k2 j x hj;exact⟨y,by rw[show o+l * ye.size+i * ye.size+j=o+(l+i) * ye.size+j by rw[Nat.add_mul];omega];exact hy,hr⟩
        ·cases he'
     ·simp[Instr.sliceAt,Instr.slice,AE (Aw hT hk),h3,B9 he]
    ·cases hq
   ·cases hq
  ·cases hq
 ·rename_i n lo0 len
  simp only[LA,Option.some.injEq,AV.r.injEq,Value.int.injEq] at hlen;obtain⟨rfl,rfl⟩:=hlen;split at hq
  ·rename_i e hk
   split at hq
   ·rename_i ye k' he hn0
    split at hq
    ·rename_i hke;subst hke
     obtain⟨nd,hn,hkN⟩:=I6 hn0;simp only[Option.map_eq_some_iff] at hq;obtain⟨⟨l,q⟩,hb,rfl⟩:=hq;obtain⟨L,hL,hcase⟩:=hr.s_inv;obtain⟨L',h1',hnd,_⟩:=h.mem.nds _ _ hn;rw[hL] at h1';cases h1'
     rcases hcase with ⟨hp,rfl,rfl⟩ |⟨hp,c,o,rfl,hlc,hcap,ho⟩
     ·obtain⟨h1,h2,h3⟩:=Ec (P:=P) h hl hh hm hb hm0 hm1 hm2 (Nat.le_refl 0)
      obtain rfl:mv=0:=by omega
      obtain rfl:q=0:=by omega
      obtain rfl:l=0:=by omega
      refine⟨.slice none 0 0,.sn th n _ L hL hp,fun w' _=>?_⟩;simp[Instr.sliceAt,Instr.slice,AE (Aw hT hk),h3,B9 he]
     obtain⟨h1,h2,h3⟩:=Ec (P:=P) h hl hh hm hb hm0 hm1 hm2 hlc;have hkk:L.k=ye.size:=(hkN _ _ _ _ hnd).resolve_left (by rw[hp];exact Bool.false_ne_true);refine⟨.slice (some (if mv.toNat=l then ⟨L.b,o,none⟩ else ⟨L.b,o+l * ye.size,none⟩)) (q - l) (mv.toNat - l),?_,fun w' _=>?_⟩
     ·by_cases hcl:mv.toNat=l
      ·rw[if_pos hcl]
       exact .s th n _ _ _ o L hL hp (by omega) (by omega) (fun hh=>by omega)
      ·rw[if_neg hcl]
       refine .s th n _ _ _ _ L hL hp (by omega) (by omega) (fun hh=>?_);have:=ho (by omega);subst this;rw[←hkk,Nat.add_mul,Nat.add_assoc]
     ·simp[Instr.sliceAt,Instr.slice,AE (Aw hT hk),h3,B9 he,Ce]
      split<;>rfl
    ·cases hq
   ·cases hq
  ·cases hq
 ·obtain rfl:=hr.r_inv
  simp only[LA,Option.some.injEq,AV.r.injEq,Value.int.injEq] at hlen;obtain⟨rfl,rfl⟩:=hlen;split at hq
  ·rename_i e hk
   split at hq
   ·rename_i ye he
    simp only[Option.map_eq_some_iff] at hq;obtain⟨⟨l,q⟩,hb,rfl⟩:=hq;obtain⟨h1,h2,h3⟩:=Ec (P:=P) h hl hh hm hb hm0 hm1 hm2 (Nat.le_refl 0)
    obtain rfl:mv=0:=by omega
    obtain rfl:q=0:=by omega
    obtain rfl:l=0:=by omega
    refine⟨_,.r th _,fun w' _=>?_⟩;simp only[Instr.sliceAt,Instr.slice,Sem.run_bind,AE (Aw hT hk),h3,Result.andThen_ok];simp[B9 he]
   ·cases hq
  ·cases hq
 ·cases hq
theorem MT {x r:AV}{v:Value}(hr:Rep w z th x v){T:TypeId}{y:TY}(hq:PG x y.k=some r)(hT:AT P T=some y): ∃u,Rep w z th r u∧ ∀w' ty,(Builtin.cap_ #[T] ty #[v]).run P w'= .ok u w':=by
 unfold PG at hq;split at hq
 ·rename_i e hk
  split at hq
  ·cases hq
   obtain rfl:=hr.r_inv;exact⟨_,.r _ _,fun w' ty=>by simp[Builtin.cap_,AE (Aw hT hk),goInt]⟩
  ·cases hq
 ·cases hq
theorem Fz {d:Nat}{x r:AV}{v:Value}(hr:Rep w z th x v)(hq:GZ d x=some r): ∃b o,v= .pointer (some ⟨b,o,none⟩)∧Rep w z th r (.pointer (some ⟨b,o+d,none⟩)):=by
 unfold GZ at hq;split at hq
 ·cases hq
  obtain⟨b,o,rfl,hz,hc⟩:=hr.re_inv;exact⟨b,_,rfl,by rw[Nat.add_assoc];exact Rep.re_mk hz hc⟩
 ·cases hq
  obtain⟨L,hL,rfl⟩:=hr.p_inv;exact⟨L.b,_,rfl,by rw[Nat.add_assoc];exact .p th _ _ _ L hL⟩
 ·cases hq
theorem Ng (h:Sim E N st th z a w){T:TypeId}{y:TY}(hT:AT P T=some y){x r:AV}{v:Value}(hr:Rep w z th x v){k:IntKind}{i:Int}(hq:T6 st P y i x=some r):
  ∃u,Rep w z th r u∧ ∀w',(Instr.indexAt T v (.int k i)).run P w'= .ok u w':=by
 unfold T6 at hq;split at hq
 ·rename_i e hk
  split at hq
  ·rename_i ye t k' els he
   split at hq
   ·rename_i hc;obtain⟨rfl,h0⟩:=hc
    simp only[Option.map_eq_some_iff] at hq;obtain⟨c,hc,rfl⟩:=hq;have hi:i.toNat<els.length:=(List.getElem?_eq_some_iff.1 hc).1;obtain⟨ad,cap,rfl,hcap,hn |⟨b,o,rfl,hz,hcell⟩⟩:=hr.ro_inv
    ·subst hn;simp at hi
    ·obtain⟨_,h3⟩:=hcell _ _ hc
     refine⟨.pointer (some ⟨b,o+i.toNat * ye.size+0,none⟩),Rep.re_mk hz (fun j x hj=>let ⟨y,h1,h2,_⟩:=h3 j x hj;⟨y,h1,h2⟩),fun w'=>?_⟩;have:0≤i∧i<els.length:=⟨h0,by omega⟩;simp[Instr.indexAt,asIntOf,AE (Aw hT hk),this,B9 he,Ce]
   ·cases hq
  ·rename_i ye n lo len he
   split at hq
   ·rename_i k' hn0
    split at hq
    ·rename_i hc;obtain⟨rfl,h0,h1⟩:=hc;cases hq
     obtain⟨nd,hn,hkN⟩:=I6 hn0;obtain⟨L,hL,hcase⟩:=hr.s_inv;obtain⟨L',h1',hnd,_⟩:=h.mem.nds _ _ hn;rw[hL] at h1';cases h1'
     rcases hcase with ⟨_,rfl,_⟩ |⟨hp,c,o,rfl,hlc,hcap,ho⟩
     ·omega
     have hkk:L.k=ye.size:=(hkN _ _ _ _ hnd).resolve_left (by rw[hp];exact Bool.false_ne_true);have ho:=ho (by omega);subst ho;refine⟨.pointer (some ⟨L.b,L.o+(lo+i.toNat) * L.k+0,none⟩),.p th n _ 0 L hL,fun w'=>?_⟩;simp[Instr.indexAt,asIntOf,AE (Aw hT hk),h0,h1,B9 he,Ce];rw[←hkk,Nat.add_mul,Nat.add_assoc]
    ·cases hq
   ·cases hq
  ·cases hq
 ·rename_i m e hk
  split at hq
  ·rename_i ye he
   split at hq
   ·rename_i hc
    obtain⟨b,o,rfl,hr'⟩:=Fz hr hq;refine⟨_,hr',fun w'=>?_⟩;simp[Instr.indexAt,Instr.sureAddr,asIntOf,AE (Fs hT hk),hc,B9 he,Ce]
   ·cases hq
  ·cases hq
 ·cases hq
end
end Go.AM
namespace Go.AM
open Go
section
variable {P:Program} {E:Env} {N:Nat} {st:AS} {th:List NLoc} {z:Ag} {a:Act} {w:World}
theorem EV (off:Nat): ∀(new:List Value)(s:Nat)(cs:Array Value),off+s+new.length≤cs.size→
  ((new.zipIdx s).foldl (fun cs p=>cs.setIfInBounds (off+p.2) p.1) cs).toList=cs.toList.take (off+s)++new++cs.toList.drop (off+s+new.length)
 | [],s,cs,_=>by simp
 |x::new,s,cs,h=>by
  simp only[List.length_cons] at h;rw[List.zipIdx_cons,List.foldl_cons,EV off new (s+1) _ (by simp;omega)];simp only[Array.toList_setIfInBounds,List.length_cons]
  have hs:cs.toList.length=cs.size:=by simp
  rw[List.set_eq_take_append_cons_drop,if_pos (by omega)]
  have hl:(cs.toList.take (off+s)).length=off+s:=by rw[List.length_take];omega
  have e1:List.take (off+(s+1)) (List.take (off+s) cs.toList++x::List.drop (off+s+1) cs.toList)=List.take (off+s) cs.toList++[x]:=by
   rw[List.take_append,hl,List.take_of_length_le (by omega),show off+(s+1) - (off+s)=1 by omega];simp
  have e2:List.drop (off+(s+1)+new.length) (List.take (off+s) cs.toList++x::List.drop (off+s+1) cs.toList)=List.drop (off+s+(new.length+1)) cs.toList:=by
   rw[List.drop_append,hl,List.drop_of_length_le (by omega),show off+(s+1)+new.length - (off+s)=new.length+1 by omega,List.nil_append,List.drop_succ_cons,List.drop_drop]
   congr 1;omega
  rw[e1,e2];simp
theorem CL {x:AV}{v:Value}(hr:Rep w z th x v)(ho:x.okPart=true):Reps w z th x.cells v.cells.toList:=by
 have one: ∀(x:AV)(v:Value),Rep w z th x v→Reps w z th [x] [v]:=fun x v h=> .cons h .nil
 cases hr with
 |r _ v=>cases v<;>first |exact one _ _ (.r th _) |(simp[AV.okPart] at ho)
 |nil _ t k ad c=>exact one _ _ (.nil th t k ad c)
 |ro _ t k els b o c ys hz hc hk hy h1 hx=>exact one _ _ (.ro th t k els b o c ys hz hc hk hy h1 hx)
 |re _ t c b o off ys hz hy hx=>exact one _ _ (.re th t c b o off ys hz hy hx)
 |s _ n lo len c x L hL hp hl hc hx=>exact one _ _ (.s th n lo len c x L hL hp hl hc hx)
 |sn _ n lo L hL hp=>exact one _ _ (.sn th n lo L hL hp)
 |p _ n i off L hL=>exact one _ _ (.p th n i off L hL)
 |agg _ c ys hl hx=>simp only[Value.cells,AV.cells];exact⟨hl,hx⟩
 |tup _ c ys hl hx=>exact one _ _ (.tup th c ys hl hx)
 |fn _ f c ys hl hx=>exact one _ _ (.fn th f c ys hl hx)
 |ifc _ t x v hx=>exact one _ _ (.ifc th t x v hx)
 |q _ n L hL=>exact one _ _ (.q th n L hL)
 |any _ v=>simp[AV.okPart] at ho
theorem Reps.splice {cs new:List AV}{ys us:List Value}{off:Nat}(h:Reps w z th cs ys)(h':Reps w z th new us):Reps w z th (splice cs off new) (ys.take off++us++ys.drop (off+us.length)):=by
 unfold Go.AM.splice;rw[h'.1];exact((h.take off).append h').append (h.drop _)
theorem Fo (h:Sim E N st th z a w)(place:Nat→Option (Nat×Nat)): ∀(l:List (Nat×Operand))(l':List (Nat×AV))(cs:List AV)(ys:Array Value)(c:List AV),EY st E.G l=some l'→Reps w z th cs ys.toList→G6 place cs l'=some c→
  ∃us:Array Value,Instr.fill place ys (l.map fun p=>(p.1,a.eval p.2))=some us∧Reps w z th c us.toList
 | [],l',cs,ys,c,he,hr,hf=>by
   simp only[EY,Option.some.injEq] at he;subst he;simp only[G6,Option.some.injEq] at hf;subst hf;exact⟨ys,rfl,hr⟩
 |(i,x)::l,l',cs,ys,c,he,hr,hf=>by
  simp only[EY] at he;split at he
  ·rename_i av l2 h1 h2;cases he
   unfold G6 at hf;split at hf
   ·cases hf
   ·rename_i off sz hp
    split at hf
    ·rename_i hc;obtain⟨h3,h4,h5⟩:=hc
     have hv:=AN h h1;have hcells:=CL hv h5
     have hsz:(a.eval x).cells.size=sz:=by
      have:=hcells.1;rw[h3] at this;simpa using this
     have hys:ys.size=cs.length:=by simpa using hr.1
     have key:=EV off (a.eval x).cells.toList 0 ys (by simp[hsz];omega);simp only[Nat.add_zero] at key;obtain⟨us,hus,hru⟩:=Fo h place l l2 (splice cs off av.cells) _ c h2 (by rw[key];exact hr.splice hcells) hf;refine⟨us,?_,hru⟩;simp only[List.map_cons,Instr.fill,hp];rw[if_neg (by simp[hsz];omega)];rw[←hus]
     congr 1
     rw[←Array.foldl_toList,Array.toList_zipIdx]
    ·cases hf
  ·cases he
theorem Fv {r:Nat}{es:Array MapEntry}{ck:Nat}(hb:w.heap[r]?=some (.map es ck)):(getObj r).run P w= .ok (.map es ck) w:=by simp[getObj,Sem.run,hb]
theorem M7 (h:Sim E N st th z a w){x r:AV}{y:TY}{v:Value}(hr:Rep w z th x v)(hq:Oq st x y.k=some r){T:TypeId}(hT:AT P T=some y):
  ∃u,Rep w z th r u∧ ∀w' ty,SameK st th z w w'→(Builtin.len_ #[T] ty #[v]).run P w'= .ok u w':=by
 unfold Oq at hq;split at hq
 ·rename_i e hk
  have hs: ∀(ad:Option Addr)(l c:Nat) w' ty,(Builtin.len_ #[T] ty #[.slice ad l c]).run P w'= .ok (.int .i64 l) w':=by
   intro ad l c w' ty;simp[Builtin.len_,AE (Aw hT hk),goInt]
  unfold LA at hq;split at hq
  ·cases hq
   obtain⟨ad,c,rfl,_⟩:=hr.ro_inv;exact⟨_,.r th _,fun w' ty _=>hs _ _ _ _ _⟩
  ·cases hq
   obtain⟨L,_,⟨_,rfl,rfl⟩ |⟨_,c,o,rfl,_⟩⟩:=hr.s_inv
   ·exact⟨_,.r th _,fun w' ty _=>hs _ _ _ _ _⟩
   ·exact⟨_,.r th _,fun w' ty _=>hs _ _ _ _ _⟩
  ·cases hq
   obtain rfl:=hr.r_inv;exact⟨_,.r th _,fun w' ty _=>hs _ _ _ _ _⟩
  ·cases hq
 ·rename_i k e hk
  unfold RJ at hq;split at hq
  ·rename_i n
   split at hq
   ·rename_i l hl;cases hq
    obtain⟨L,hL,rfl⟩:=hr.q_inv;obtain⟨L',h1,⟨hp,es,ck,h2,h3,_⟩,h4⟩:=h.mem.nds _ _ hl;rw[hL] at h1;cases h1;refine⟨_,.r th _,fun w' ty hs=>?_⟩;have hb:=hs L.b (.inr ⟨n,_,L,hl,hL,hp,rfl⟩);rw[h2] at hb
    have hlen:es.size=l.length:=by have:=congrArg List.length h3;simpa using this
    simp[Builtin.len_,AE (Jj hT hk),goInt,Fv hb,hlen]
   ·cases hq
  ·cases hq
 ·rename_i hk
  split at hq
  ·cases hq
   obtain rfl:=hr.r_inv;exact⟨_,.r th _,fun w' ty _=>by simp[Builtin.len_,AE (Dv hT hk),goInt]⟩
  ·cases hq
 ·rename_i n e hk
  cases hq;exact⟨_,.r th _,fun w' ty _=>by simp[Builtin.len_,AE (Fs hT hk),goInt]⟩
 ·cases hq
theorem Nf {T:TypeId}{y:TY}(hT:AT P T=some y){x r:AV}{v:Value}(hr:Rep w z th x v){k:IntKind}{i:Int}(hq:T5 P y i x=some r):
  ∃u,Rep w z th r u∧ ∀w',(Instr.index T v (.int k i)).run P w'= .ok u w':=by
 unfold T5 at hq;split at hq
 ·rename_i s hk
  obtain rfl:=hr.r_inv;split at hq
  ·rename_i h0
   simp only[Option.map_eq_some_iff] at hq;obtain⟨b,hb,rfl⟩:=hq;refine⟨_,.r th _,fun w'=>?_⟩;simp[Instr.index,asIntOf,AE (Dv hT hk),h0,hb]
  ·cases hq
 ·rename_i m e c hk
  split at hq
  ·rename_i ye he
   split at hq
   ·rename_i hc
    obtain⟨ys,rfl,hc'⟩:=hr.agg_inv;unfold Gx at hq;split at hq
    ·rename_i hag
     split at hq
     ·cases hq
      refine⟨_,.agg th _ ((ys.drop (i.toNat * ye.size)).take ye.size) ?_ ?_,fun w'=>?_⟩
      ·exact((hc'.drop _).take _).1
      ·exact((hc'.drop _).take _).2
      ·simp[Instr.index,asIntOf,AE (Fs hT hk),hc,part,FD he,hag,B9 he]
     ·cases hq
    ·rename_i hag
     obtain⟨u,hu,hr'⟩:=hc'.get hq;refine⟨u,hr',fun w'=>?_⟩;simp[Instr.index,asIntOf,AE (Fs hT hk),hc,part,FD he,hag,B9 he,hu]
   ·cases hq
  ·cases hq
 ·cases hq
theorem FV {α β:Type}(f:α→Sem β)(g:α→β)(w:World): ∀l:List α,(∀x ∈ l,(f x).run P w= .ok (g x) w)→(l.mapM f).run P w= .ok (l.map g) w
 | [],_=>by simp
 |x::l,h=>by
  rw[List.mapM_cons,Sem.run_bind,h x (by simp),Result.andThen_ok,Sem.run_bind,FV f g w l (fun y hy=>h y (by simp[hy]))]
  rfl
theorem Jo {α β:Type}(f:α→Sem β)(g:α→β)(w:World)(l:Array α)(h: ∀x ∈ l.toList,(f x).run P w= .ok (g x) w):(l.mapM f).run P w= .ok (l.toList.map g).toArray w:=by
 obtain⟨l⟩:=l;rw[List.mapM_toArray,Sem.run_map,FV f g w l h]
 rfl
theorem Ch {T:TypeId}{k:TK}{s b:Nat}{zs:List Value}(hT:AT P T=some ⟨k,s,b,some zs⟩): ∃v:Value,∀w',(zeroValue T).run P w'= .ok v w'∧v.cells.toList=zs:=by
 obtain⟨i,d,h1,h2,h3⟩:=BL hT;simp only[TY.mk.injEq] at h3;obtain⟨_,_,_,h3⟩:=h3;obtain⟨v,hv,hv'⟩:=Option.map_eq_some_iff.1 h3.symm;exact⟨v,fun w'=>⟨by simp[zeroValue,CN h1,hv],hv'⟩⟩
theorem Reps.plain (l:List Value):Reps w z th (l.map AV.r) l:=by
 refine⟨by simp,fun i x y h1 h2=>?_⟩;simp only[List.getElem?_map,h2,Option.map_some,Option.some.injEq] at h1;subst h1;exact .r th _
theorem Rep.agg_mk {c:List AV}{us:Array Value}(h:Reps w z th c us.toList):Rep w z th (.agg c) (.agg us):=by
 have:=Rep.agg th c us.toList h.1 h.2;simpa using this
theorem G5 {d:TypeDesc}{v:Int}(hd: ∃kk,d= .int kk): ∀(es:List MapEntry)(l:List Int)(i:Nat),es.map (·.key)=l.map (.int .i64 ·)→
  ∃r,Instr.findNow d (.int .i64 v) es i=some r∧r.isSome=l.contains v
 | [],[],i,_=>⟨none,by simp[Instr.findNow],by simp⟩
 | [],_::_,_,h=>by simp at h
 |_::_,[],_,h=>by simp at h
 |e::es,k::l,i,h=>by
  simp only[List.map_cons,List.cons.injEq] at h;obtain⟨h1,h2⟩:=h;obtain⟨kk,rfl⟩:=hd;obtain⟨r,h3,h4⟩:=G5 (v:=v) ⟨kk,rfl⟩ es l (i+1) h2;simp only[Instr.findNow,h1,Instr.sameNow,if_true]
  by_cases hv:v=k
  ·subst hv;exact⟨some (i,e.val),by simp,by simp⟩
  ·have:(v==k)=false:=by simpa using hv
   rw[this];exact⟨r,by simpa using h3,by rw[h4];simp[hv]⟩
theorem E_ {kT:TypeId}{kk:IntKind}(hu:P.underlying kT=some (.int kk))(b:Bool)(v:Value)(w:World):(Instr.checkKey b 10000 kT v).run P w= .ok () w:=by
 rw[show(10000:Nat)=9999+1 from rfl,Instr.checkKey];simp[AE hu]
theorem H6 {d:TypeDesc}{k:Value}: ∀(es:List MapEntry)(i j:Nat)(u:Value),Instr.findNow d k es i=some (some (j,u))→ ∃e ∈ es,e.val=u
 | [],i,j,u,h=>by simp[Instr.findNow] at h
 |e::es,i,j,u,h=>by
  simp only[Instr.findNow] at h;split at h
  ·cases h;exact⟨e,by simp,rfl⟩
  ·obtain⟨e',h1,h2⟩:=H6 es _ _ _ h;exact⟨e',by simp[h1],h2⟩
  ·cases h
theorem H7 {kT:TypeId}{kk:IntKind}(hu:P.underlying kT=some (.int kk)){v:Int}{es:List MapEntry}{l:List Int}(h:es.map (·.key)=l.map (.int .i64 ·)): ∃r,(∀w,(Instr.findKey kT (.int .i64 v) es).run P w= .ok r w)∧r.isSome=l.contains v∧Instr.findNow (.int kk) (.int .i64 v) es 0=some r:=by
 obtain⟨r,h1,h2⟩:=G5 (v:=v) ⟨kk,rfl⟩ es l 0 h;exact⟨r,fun w=>by simp[Instr.findKey,AE hu,h1],h2,h1⟩
def U9 (v0:Value):Option (Nat×Value)→Value
 |some (_,u)=>u
 |none=>v0
theorem M3 (h:Sim E N st th z a w){T:TypeId}{x i:Operand}{r:AV}(hq:L6 P st (AT P T) (ev st E.G x) (ev st E.G i)=some r): ∃v,Rep w z th r v∧ ∀w',SameK st th z w w'→(Instr.lookup T (a.eval x) (a.eval i) true).run P w'= .ok v w':=by
 unfold L6 at hq;split at hq
 ·rename_i k e s b zz n kk v hT hx hi
  unfold Ol at hq;split at hq
  ·rename_i s1 b1 z1 k2 s2 b2 l hk he hl
   split at hq
   ·cases hq
    obtain⟨L,hL,hv⟩:=(AN h hx).q_inv;have hi':=(AN h hi).r_inv;obtain⟨L',h1,⟨hp,es,ck,h2,h3,hvals⟩,h4⟩:=h.mem.nds _ _ hl;rw[hL] at h1;cases h1;obtain⟨v0,hz⟩:=Ch he
    have hv0:v0= .agg #[]:=by
     have:=(hz w).2
     cases v0<;>simp[Value.cells] at this
     subst this;rfl
    obtain⟨r,g1,g2,g3⟩:=H7 (P:=P) (D_ hk rfl) (v:=v) h3
    have hval:U9 v0 r= .agg #[]:=by
     cases r with
     |none=>exact hv0
     |some p=>
      obtain⟨j,u⟩:=p;obtain⟨e',h5,h6⟩:=H6 _ _ _ _ g3;exact h6.symm.trans (hvals e' h5)
    refine⟨.tuple #[U9 v0 r,.bool r.isSome],?_,fun w' hs=>?_⟩
    ·rw[←g2,hval]
     have:=Rep.tup (w:=w) (z:=z) th [.agg [],.r (.bool r.isSome)] [.agg #[],.bool r.isSome] rfl (fun i x y hx hy=>by
      rcases i with _ |_ |i
      ·simp at hx hy;subst hx hy;exact .agg _ [] [] rfl (fun i x y h=>by simp at h)
      ·simp at hx hy;subst hx hy;exact .r _ _
      ·simp at hx)
     exact this
    ·have hb:=hs L.b (.inr ⟨n,_,L,hl,hL,hp,rfl⟩)
     rw[h2] at hb;rw[hv,hi'];simp only[Instr.lookup,Sem.run_bind,AE (Jj hT rfl),Result.andThen_ok,Fv hb,Sem.run_pure,E_ (D_ hk rfl),g1]
     cases r with
     |none=>simp[(hz w').1,U9]
     |some p=>obtain⟨_,u⟩:=p;simp[U9]
   ·cases hq
  ·cases hq
 ·cases hq
theorem NT (h:Sim E N st th z a w){args:Array Operand}{r:AV}(hq:Oj (Du st E.G args.toList)=some r): ∃v,Rep w z th r v∧ ∀w' ats ty,(Builtin.max_ ats ty (args.map a.eval)).run P w'= .ok v w':=by
 unfold Oj at hq;split at hq
 ·rename_i l he
  unfold RG at hq;split at hq
  ·rename_i k x k' y;cases hq
   obtain⟨v1,r1,hargs,hr1,hrest⟩:=(Bs h he).head;obtain⟨v2,r2,rfl,hr2,hrest2⟩:=hrest.head;obtain rfl:=hrest2.of_nil;obtain rfl:=hr1.r_inv;obtain rfl:=hr2.r_inv;refine⟨_,.r th _,fun w' ats ty=>?_⟩;simp only[Builtin.max_,Array.toList_map,hargs,List.foldlM_cons,List.foldlM_nil,Builtin.max2];simp
  ·cases hq
 ·cases hq
theorem Eo (h:Sim E N st th z a w)(o:Oper){x:AV}(hq:qv P E.G st o.op=some x): ∃v,Rep w z th x v∧ ∀w',SameK st th z w w'→(execOp a.eval o).run P w'= .ok (.value v) w':=by
 obtain⟨dst,op,ty,pos,aft,gd⟩:=o;simp only at hq;unfold qv at hq;split at hq
 ·exact⟨_,AN h hq,fun w' _=>by simp[execOp]⟩
 ·exact⟨_,AN h hq,fun w' _=>by simp[execOp]⟩
 ·split at hq
  ·rename_i c a1 b1 h1 h2 h3;cases hq
   have r1:=(AN h h1).r_inv;have r2:=AN h h2;have r3:=AN h h3;refine⟨if c then a.eval _ else a.eval _,?_,fun w' _=>by simp only[execOp,r1,asBool];rfl⟩
   have hbo: ∀ {x:AV}{b:Bool},Ii x=some b→x= .r (.bool b):=by
    intro x b hx;unfold Ii at hx;split at hx
    ·cases hx;rfl
    ·cases hx
   unfold Jx;split
   ·rename_i x y hx hy
    rw[hbo hx] at r2;rw[hbo hy] at r3;obtain e2:=r2.r_inv;obtain e3:=r3.r_inv;cases c
    ·simp only[cond_false];rw[e3];exact .r th _
    ·simp only[cond_true];rw[e2];exact .r th _
   ·cases c
    ·simpa using r3
    ·simpa using r2
  ·cases hq
 ·split at hq
  ·rename_i y x1 hT he
   split at hq
   ·rename_i c off hc
    obtain⟨b,o,hv,hlt,hcell⟩:=Fc h (AN h he) hc;obtain⟨v,hr,hrun⟩:=Gv (P:=P) hT hq (fun _=> .inr trivial) hcell;refine⟨v,hr,fun w' ew=>?_⟩;simp only[execOp,hv,Instr.loadAt,Instr.sureAddr,Sem.run_bind,Sem.run_pure,Result.andThen_ok];rw[hrun w' (fun o=>LI ew hlt o)]
    rfl
   ·cases hq
  ·cases hq
 ·split at hq
  ·rename_i t c off he;cases hq
   have hr:=AN h he;obtain⟨b,o,hv,_⟩:=hr.re_inv;rw[hv] at hr;exact⟨_,hr,fun w' _=>by simp only[execOp,hv];rfl⟩
  ·rename_i n i off he;cases hq
   have hr:=AN h he;obtain⟨L,_,hv⟩:=hr.p_inv;rw[hv] at hr;exact⟨_,hr,fun w' _=>by simp only[execOp,hv];rfl⟩
  ·rename_i f c he;cases hq
   have hr:=AN h he;generalize hv:a.eval _=v at hr
   cases hr with
   |fn _ _ _ ys hl hx=>exact⟨_,.fn th f c ys hl hx,fun w' _=>by simp only[execOp,hv];rfl⟩
  ·cases hq
 ·split at hq
  ·rename_i hY
   split at hq
   ·rename_i y v hT h1
    obtain rfl:=M9 hY;obtain⟨u,rfl,hrun⟩:=MC hT hq;have hx:=(AN h h1).r_inv;refine⟨u,.r th u,fun w' _=>?_⟩;simp only[execOp];rw[hx,show a.eval (.const .nilIface)=Value.nilIface from rfl,Sem.run_bind,hrun];rfl
   ·cases hq
  ·split at hq
   ·rename_i y x1 x2 hT h1 h2
    obtain⟨v,hr,hrun⟩:=Nn hT (AN h h1) (AN h h2) hq _ _;refine⟨v,hr,fun w' _=>?_⟩;have:=hrun w';simp only[execOp];rw[Sem.run_bind,this];rfl
   ·rename_i y x1 x2 hT h1 h2
    obtain⟨v,hr,hrun⟩:=MY hT (AN h h1) (AN h h2) hq _ _;refine⟨v,hr,fun w' _=>?_⟩;have:=hrun w';simp only[execOp];rw[Sem.run_bind,this];rfl
   ·cases hq
 ·split at hq
  ·rename_i x1 h1
   obtain⟨v,hr,hrun⟩:=N5 (P:=P) (AN h h1) hq;refine⟨v,hr,fun w' _=>?_⟩;simp only[execOp];rw[Sem.run_bind,hrun w'];rfl
  ·cases hq
 ·split at hq
  ·rename_i s d x1 hS hD h1
   obtain⟨v,hr,hrun⟩:=Nu h hS hD (AN h h1) hq;refine⟨v,hr,fun w' ew=>?_⟩;simp only[execOp];rw[Sem.run_bind,hrun w' ew];rfl
  ·cases hq
 ·split at hq
  ·cases hq
  ·rename_i y x1 hne hT h1;cases hq
   obtain⟨d,hd,hdn⟩:=KZ hT (fun hk=>by obtain⟨k,s,b,zz⟩:=y;simp only at hk;subst hk;exact hne _ _ _ rfl);refine⟨_,.ifc th _ _ _ (AN h h1),fun w' _=>?_⟩;simp only[execOp,Instr.makeInterface,Sem.run_bind,AE hd,Result.andThen_ok]
   rfl
  ·cases hq
 ·split at hq
  ·rename_i c hf he;cases hq
   obtain⟨hl,hx⟩:=Bs h he;refine⟨_,.fn th _ c _ hl hx,fun w' _=>?_⟩;have hfirst:=Array.toList_eq_nil_iff.1 hf;subst hfirst;simp[execOp,Instr.makeFunc];apply Array.ext';simp
  ·cases hq
 ·split at hq
  ·rename_i y x1 lo hi hT h1 hl hh
   obtain⟨v,hr,hrun⟩:=NA h hT (AN h h1) hl hh hq;refine⟨v,hr,fun w' ew=>?_⟩;simp only[execOp,Option.map_none];rw[Sem.run_bind,hrun w' ew];rfl
  ·cases hq
 ·split at hq
  ·rename_i y x1 lo hi m hT h1 hl hh hm
   obtain⟨v,hr,hrun⟩:=Lq h hT (AN h h1) hl hh hm hq;refine⟨v,hr,fun w' ew=>?_⟩;simp only[execOp,Option.map_some];rw[Sem.run_bind,hrun w' ew];rfl
  ·cases hq
 ·split at hq
  ·rename_i fs sz by' zz x1 hT h1
   split at hq
   ·rename_i off fsz hfs
    split at hq
    ·cases hq
    ·rename_i hnz
     obtain⟨b,o,hv,hr⟩:=Fz (AN h h1) hq;obtain⟨gs,hu,hg,hsome⟩:=He hT rfl;refine⟨_,hr,fun w' _=>?_⟩;rw[hg] at hfs;simp only[List.getElem?_map,Option.map_eq_some_iff,Prod.mk.injEq] at hfs;obtain⟨f,hf,rfl,hsz⟩:=hfs;rw[Array.getElem?_toList] at hf;simp only[execOp,Instr.fieldAt,Sem.run_bind,AE hu,Result.andThen_ok,hf,hv,Instr.sureAddr,Sem.run_pure,fieldPlace]
     have:(sizeOf f.type).run P w'= .ok fsz w':=by
      unfold Hi at hsz;split at hsz
      ·rename_i i hi;subst hsz;simp[sizeOf,CN hi]
      ·omega
     simp[this,hnz,Ce]
   ·cases hq
  ·cases hq
 ·split at hq
  ·rename_i y x1 k i hT h1 h2
   have hi:=(AN h h2).r_inv;obtain⟨v,hr,hrun⟩:=Ng (k:=k) h hT (AN h h1) hq;refine⟨v,hr,fun w' _=>?_⟩;simp only[execOp,hi];rw[Sem.run_bind,hrun w'];rfl
  ·cases hq
 ·split at hq
  ·rename_i y x1 k i hT h1 h2
   have hi:=(AN h h2).r_inv;obtain⟨v,hr,hrun⟩:=Nf (k:=k) hT (AN h h1) hq;refine⟨v,hr,fun w' _=>?_⟩;simp only[execOp,hi];rw[Sem.run_bind,hrun w'];rfl
  ·cases hq
 ·obtain⟨v,hr,hrun⟩:=M3 h hq
  exact⟨v,hr,fun w' hs=>by simp only[execOp];rw[Sem.run_bind,hrun w' hs];rfl⟩
 ·split at hq
  ·rename_i c h1
   generalize hv:a.eval _=u at *;obtain⟨ys,hu,hc⟩:=(show Rep w z th (.tup c) (a.eval _) from AN h h1).tup_inv;obtain⟨v,hy,hr⟩:=hc.get hq;refine⟨v,hr,fun w' _=>?_⟩;simp[execOp,hu,Instr.extract,hy]
  ·cases hq
 ·split at hq
  ·rename_i parts _ _ fs sz by' zs l hT he
   simp only[Option.map_eq_some_iff] at hq;obtain⟨c,hf,rfl⟩:=hq;obtain⟨gs,hu,hg,hsome⟩:=He hT rfl;obtain⟨v0,hz⟩:=Ch hT;obtain⟨us,hus,hru⟩:=Fo h _ _ _ _ v0.cells _ he (by rw[(hz w).2];exact Reps.plain zs) hf;refine⟨.agg us,Rep.agg_mk hru,fun w' _=>?_⟩
   have hpl:(gs.mapM fun f=>do pure (f.offset,←sizeOf f.type):Sem (Array (Nat×Nat))).run P w'= .ok fs.toArray w':=by
    rw[hg];refine Jo _ (fun f=>(f.offset,Hi P f.type)) w' gs (fun f hf=>?_);obtain⟨i,hi⟩:=Option.isSome_iff_exists.1 (hsome f hf);simp[sizeOf,CN hi,Hi,hi]
   simp only[execOp,Instr.build,Sem.run_bind,(hz w').1,Result.andThen_ok,AE hu,hpl]
   have:Instr.fill (fun x=>fs.toArray[x]?) v0.cells (Array.map (fun x=>(x.1,a.eval x.2)) parts).toList=some us:=by
    rw[←hus];simp
   simp only[this]
   rfl
  ·rename_i parts _ _ m e sz by' zs l hT he
   split at hq
   ·rename_i ye hye
    simp only[Option.map_eq_some_iff] at hq;obtain⟨c,hf,rfl⟩:=hq;obtain⟨v0,hz⟩:=Ch hT;obtain⟨us,hus,hru⟩:=Fo h _ _ _ _ v0.cells _ he (by rw[(hz w).2];exact Reps.plain zs) hf;refine⟨.agg us,Rep.agg_mk hru,fun w' _=>?_⟩;simp only[execOp,Instr.build,Sem.run_bind,(hz w').1,Result.andThen_ok,AE (Fs hT rfl),B9 hye]
    have:Instr.fill (fun i=>some (i * ye.size,ye.size)) v0.cells (Array.map (fun x=>(x.1,a.eval x.2)) parts).toList=some us:=by
     rw[←hus];simp
    simp only[this]
    rfl
   ·cases hq
  ·cases hq
 ·rename_i args argTypes
  split at hq
  ·rename_i x1 T he hT0
   split at hq
   ·rename_i y hT
    have hr:=Bs h he;obtain⟨v,ys,hys,hr1,hr2⟩:=hr.head;have:=hr2.of_nil;subst this;obtain⟨u,hu,hrun⟩:=M7 h hr1 hq hT;refine⟨u,hu,fun w' hsk=>?_⟩;obtain⟨args⟩:=args;simp only at he hys;have hT1:argTypes[0]?=some T:=hT0
    have:(Builtin.len_ argTypes ty #[v]).run P w'= .ok u w':=by
     rw[←hrun w' ty hsk];simp[Builtin.len_,hT1]
    simp only[execOp,resolve,invoke,builtin,Sem.run_bind,Sem.run_pure,Result.andThen_ok]
    have he2:(Array.map a.eval ⟨args⟩)= #[v]:=by
     simp[hys]
    rw[he2,this]
    rfl
   ·cases hq
  ·cases hq
 ·rename_i args argTypes
  obtain⟨v,hr,hrun⟩:=NT (P:=P) h hq;refine⟨v,hr,fun w' _=>?_⟩;simp only[execOp,resolve,invoke,builtin,Sem.run_bind,Sem.run_pure,Result.andThen_ok,hrun]
 ·rename_i args argTypes
  split at hq
  ·rename_i x1 T he hT0
   split at hq
   ·rename_i y hT
    have hr:=Bs h he;obtain⟨v,ys,hys,hr1,hr2⟩:=hr.head;have:=hr2.of_nil;subst this;obtain⟨u,hu,hrun⟩:=MT hr1 hq hT;refine⟨u,hu,fun w' _=>?_⟩;obtain⟨args⟩:=args;simp only at he hys;have hT1:argTypes[0]?=some T:=hT0
    have:(Builtin.cap_ argTypes ty #[v]).run P w'= .ok u w':=by
     rw[←hrun w' ty];simp[Builtin.cap_,hT1]
    simp only[execOp,resolve,invoke,builtin,Sem.run_bind,Sem.run_pure,Result.andThen_ok]
    have he2:(Array.map a.eval ⟨args⟩)= #[v]:=by
     simp[hys]
    rw[he2,this]
    rfl
   ·cases hq
  ·cases hq
 ·cases hq
end
end Go.AM
namespace Go.AM
open Go
def rm {α:Type}:List (Nat×α)→Nat→List (Nat×α)
 | [],_=>[]
 |(i,x)::r,j=>if i=j then rm r j else (i,x)::rm r j
theorem H3 {α:Type}(o:List (Nat×α))(i j:Nat):lk (rm o i) j=if i=j then none else lk o j:=by
 induction o with
 |nil=>simp[rm,lk]
 |cons p r ih=>
  obtain⟨n,x⟩:=p
  by_cases h:n=i
  ·subst h;simp only[rm,if_true,ih,lk];split<;>rfl
  ·simp only[rm,if_neg h,lk,ih]
   by_cases h2:n=j
   ·subst h2;simp[Ne.symm h]
   ·simp[h2]
section
variable {P:Program} {E:Env} {N:Nat} {st:AS} {th:List NLoc} {z:Ag} {a:Act} {w:World} {o:List (Nat×Nd)} {n:Nat}
theorem Mem.sub (h:Mem E o n th z w){o':List (Nat×Nd)}(hs: ∀i x,lk o' i=some x→lk o i=some x):Mem E o' n th z w:=
 ⟨h.len,fun i nd hi=>h.nds i nd (hs i nd hi),fun i j x y L M hi hj=>h.inj i j x y L M (hs _ _ hi) (hs _ _ hj),h.zlt,h.grow,h.frame,h.zin,h.zout,h.zb,h.globs,h.pre,h.sys,let ⟨U,hU⟩:=h.uls;⟨U,fun i T k els op L hi hL=>hU.at_ i T k els op L (hs _ _ hi) hL,hU.lt,hU.nz,hU.ow,hU.inj,fun i nd L j hi=>hU.kn i nd L j (hs _ _ hi)⟩⟩
theorem Sim.sub (h:Sim E N st th z a w){st':AS}(hn:st'.n=st.n)(ho: ∀i x,lk st'.o i=some x→lk st.o i=some x)(hm: ∀i x,lk st'.m i=some x→lk st.m i=some x):Sim E N st' th z a w:=
 ⟨by rw[hn];exact h.mem.sub ho,h.size,h.dfs,fun i x hi=>h.slots i x (hm i x hi)⟩
theorem Mem.freeze (h:Mem E o n th z w){i:Nat}{T:TypeId}{k:Nat}{els:List (List AV)}{L:NLoc}(hi:lk o i=some (.lst T k els))(hL:th[i]?=some L):Mem E (rm o i) n th (fun t b=>z t b∨(t=true∧L.ph=false∧b=L.b)) w:=by
 have le:Le w z w (fun t b=>z t b∨(t=true∧L.ph=false∧b=L.b)):=⟨fun _ _ h=> .inl h,fun _ _ _=>rfl⟩;obtain⟨L',h1,_,h3⟩:=h.nds i _ hi;rw[hL] at h1;cases h1
 have hs: ∀j x,lk (rm o i) j=some x→i≠j∧lk o j=some x:=by
  intro j x hj;rw[H3] at hj;split at hj
  ·cases hj
  ·exact⟨by assumption,hj⟩
 refine⟨h.len,fun j nd hj=>?_,fun p q x y M M' hp hq=>h.inj p q x y M M' (hs _ _ hp).2 (hs _ _ hq).2,?_,h.grow,h.frame,fun t b hb=> .inl (h.zin t b hb),?_,?_,fun g cs hg=>⟨.inl (h.globs g cs hg).1,(h.globs g cs hg).2⟩,h.pre,h.sys,?_⟩
 ·obtain⟨hne,hj⟩:=hs _ _ hj
  obtain⟨M,k1,k2,k3⟩:=h.nds j nd hj;refine⟨M,k1,by simpa using k2.on le (fun _=>rfl) [],fun hp=>⟨(k3 hp).1,fun t hz=>?_,(k3 hp).2.2⟩⟩
  rcases hz with hz |⟨_,hp2,hz⟩
  ·exact(k3 hp).2.1 t hz
  ·exact hne (h.inj i j _ _ L M hi hj hL k1 hp2 hp hz.symm)
 ·rintro t b (hb |⟨_,hp,rfl⟩)
  ·exact h.zlt t b hb
  ·exact(h3 hp).1
 ·rintro b (hb |⟨_,hp,rfl⟩)
  ·exact h.zout b hb
  ·rcases(h3 hp).2.2 with h5 |h5
   ·exact .inr (.inl h5)
   ·exact .inr (.inr h5)
 ·rintro b (hb |⟨hf,_⟩)
  ·exact h.zb b hb
  ·cases hf
 ·obtain⟨U,hU⟩:=h.uls
  refine⟨U,fun j T' k' els' op M hj hM=>?_,hU.lt,fun j b hb t hz=>?_,hU.ow,hU.inj,fun j nd M q hj=>hU.kn j nd M q (hs _ _ hj).2⟩
  ·have:=(hU.at_ j T' k' els' op M (hs _ _ hj).2 hM).on le (fun _ _=>rfl) (.inr rfl) []
   simpa using this
  ·rcases hz with hz |⟨_,hp,rfl⟩
   ·exact hU.nz j b hb t hz
   ·exact hU.kn i _ L j hi hL hp hb
theorem Sim.freeze (h:Sim E N st th z a w){i:Nat}{T:TypeId}{k:Nat}{els:List (List AV)}{L:NLoc}(hi:lk st.o i=some (.lst T k els))(hL:th[i]?=some L):
  Sim E N {st with o:=rm st.o i} th (fun t b=>z t b∨(t=true∧L.ph=false∧b=L.b)) a w:=
 ⟨h.mem.freeze hi hL,h.size,h.dfs,fun j x hj=>let ⟨y,hy,hr⟩:=h.slots j x hj;⟨y,hy,hr.on' ⟨fun _ _ h=> .inl h,fun _ _ _=>rfl⟩⟩⟩
theorem Rep.seen {z':Ag}{t:Bool}{L:NLoc}{T:TypeId}{k:Nat}{els:List (List AV)}{i lo len:Nat}{v:Value}(hr:Rep w z th (.s i lo len) v)(hL:th[i]?=some L)(hn:NdAt w z th L (.lst T k els))(hle:lo+len≤els.length)
  (hz:L.ph=false→z' t L.b) (hs: ∀t b,z t b→z' t b) (th':List NLoc):Rep w z' th' (.ro t k ((els.drop lo).take len)) v:=by
 obtain⟨L',hL',hcase⟩:=hr.s_inv;rw[hL] at hL';cases hL'
 have hlen:((els.drop lo).take len).length=len:=by simp;omega
 rcases hcase with ⟨_,rfl,rfl⟩ |⟨hp,c,o,rfl,hl,hcap,ho⟩
 ·simp only[List.take_zero];exact .nil _ _ _ _ _
 rcases hn with ⟨hp',_⟩ |⟨_,cells,fr,h2,h3,h4,h5,h6,h7⟩
 ·rw[hp] at hp';cases hp'
 by_cases hz0:len=0
 ·subst hz0;simp only[List.take_zero];exact .nil _ _ _ _ _
 ·have ho:=ho (by omega)
  subst ho
  have key:Rep w z' th' (.ro t k ((els.drop lo).take len)) (.slice (some ⟨L.b,L.o+lo * L.k,none⟩) ((els.drop lo).take len).length c):=by
   refine Rep.ro_mk (hz hp) (by rw[hlen];exact hl) (fun i e he=>?_);rw[List.getElem?_take] at he;split at he
   ·rw[List.getElem?_drop] at he
    obtain⟨k1,k2⟩:=h7 _ _ he;refine⟨k1.trans h4,fun j x hj=>?_⟩;obtain⟨y,hy,hr,h1⟩:=k2 j x hj;refine⟨y,?_,hr.on' ⟨hs,fun _ _ _=>rfl⟩,h1⟩;rw[CB h2,←h4,show L.o+lo * L.k+i * L.k+j=L.o+(lo+i) * L.k+j by rw[Nat.add_mul];omega];exact hy
   ·cases he
  rw[hlen] at key;exact key
end
mutual
def GL (st:AS):AV→Option (AV×AS)
 | .s n lo len=>match lk st.o n with
   |some (.lst _ k els)=>if lo+len≤els.length then some (.ro true k ((els.drop lo).take len),{st with o:=rm st.o n}) else none
   |_=>none
 | .r v=>some (.r v,st)
 | .ro t k els=>some (.ro t k els,st)
 | .re t c off=>some (.re t c off,st)
 | .agg c=>match IE st c with
   |some (c',st')=>some (.agg c',st')
   |none=>none
 | .tup c=>match IE st c with
   |some (c',st')=>some (.tup c',st')
   |none=>none
 |_=>none
def IE (st:AS):List AV→Option (List AV×AS)
 | []=>some ([],st)
 |x::r=>match GL st x with
  |none=>none
  |some (x',st1)=>match IE st1 r with
   |none=>none
   |some (r',st2)=>some (x'::r',st2)
end
section
variable {P:Program} {E:Env} {N:Nat} {th:List NLoc} {a:Act} {w:World}
mutual
theorem FK: ∀(x:AV){st st':AS}{z:Ag}{v:Value}{x':AV},Sim E N st th z a w→Rep w z th x v→GL st x=some (x',st')→
  ∃z',(∀t b,z t b→z' t b)∧Sim E N st' th z' a w∧Rep w z' [] x' v∧st'.m=st.m∧st'.n=st.n
 | .s i lo len,st,st',z,v,x',h,hr,hq=>by
   simp only[GL] at hq;split at hq
   ·rename_i T k els hi
    split at hq
    ·rename_i hle;cases hq
     obtain⟨L,h1,h2,h3⟩:=h.mem.nds i _ hi;exact⟨_,fun _ _ h=> .inl h,h.freeze hi h1,hr.seen h1 h2 hle (fun hp=> .inr ⟨rfl,hp,rfl⟩) (fun _ _ h=> .inl h) [],rfl,rfl⟩
    ·cases hq
   ·cases hq
 | .r u,st,st',z,v,x',h,hr,hq=>by
   simp only[GL] at hq;cases hq;obtain rfl:=hr.r_inv;exact⟨z,fun _ _ h=>h,h,.r _ _,rfl,rfl⟩
 | .ro t k els,st,st',z,v,x',h,hr,hq=>by
   simp only[GL] at hq;cases hq;obtain⟨ad,c,rfl,hc,hn |⟨b,o,rfl,hz,hcell⟩⟩:=hr.ro_inv
   ·subst hn;exact⟨z,fun _ _ h=>h,h,.nil _ _ _ _ _,rfl,rfl⟩
   ·exact⟨z,fun _ _ h=>h,h,Rep.ro_mk hz hc hcell,rfl,rfl⟩
 | .re t c off,st,st',z,v,x',h,hr,hq=>by
   simp only[GL] at hq;cases hq;obtain⟨b,o,rfl,hz,hcell⟩:=hr.re_inv;exact⟨z,fun _ _ h=>h,h,Rep.re_mk hz hcell,rfl,rfl⟩
 | .agg c,st,st',z,v,x',h,hr,hq=>by
   simp only[GL] at hq;split at hq
   ·rename_i c' st1 hc;cases hq
    obtain⟨ys,rfl,hc'⟩:=hr.agg_inv;obtain⟨z',hz,hs,hr',hm,hn⟩:=EU c h hc' hc;exact⟨z',hz,hs,.agg _ _ _ hr'.1 hr'.2,hm,hn⟩
   ·cases hq
 | .p _ _ _,_,_,_,_,_,_,_,hq=>by simp[GL] at hq
 | .tup c,st,st',z,v,x',h,hr,hq=>by
   simp only[GL] at hq;split at hq
   ·rename_i c' st1 hc;cases hq
    obtain⟨ys,rfl,hc'⟩:=hr.tup_inv;obtain⟨z',hz,hs,hr',hm,hn⟩:=EU c h hc' hc;exact⟨z',hz,hs,.tup _ _ _ hr'.1 hr'.2,hm,hn⟩
   ·cases hq
 | .fn _ _,_,_,_,_,_,_,_,hq=>by simp[GL] at hq
 | .ifc _ _,_,_,_,_,_,_,_,hq=>by simp[GL] at hq
 | .q _,_,_,_,_,_,_,_,hq=>by simp[GL] at hq
 | .u _ _ _,_,_,_,_,_,_,_,hq=>by simp[GL] at hq
 | .any,_,_,_,_,_,_,_,hq=>by simp[GL] at hq
theorem EU: ∀(c:List AV){st st':AS}{z:Ag}{ys:List Value}{c':List AV},Sim E N st th z a w→Reps w z th c ys→IE st c=some (c',st')→
  ∃z',(∀t b,z t b→z' t b)∧Sim E N st' th z' a w∧Reps w z' [] c' ys∧st'.m=st.m∧st'.n=st.n
 | [],st,st',z,ys,c',h,hr,hq=>by
   simp only[IE] at hq;cases hq;obtain rfl:=hr.of_nil;exact⟨z,fun _ _ h=>h,h,.nil,rfl,rfl⟩
 |x::r,st,st',z,ys,c',h,hr,hq=>by
  simp only[IE] at hq;split at hq
  ·cases hq
  ·rename_i x1 st1 hx
   split at hq
   ·cases hq
   ·rename_i r1 st2 hr1;cases hq
    obtain⟨y,ys',rfl,hy,hys⟩:=hr.head;obtain⟨z1,hz1,hs1,hr1',hm1,hn1⟩:=FK x h hy hx;obtain⟨z2,hz2,hs2,hr2',hm2,hn2⟩:=EU r hs1 (by simpa using hys.on ⟨hz1,fun _ _ _=>rfl⟩ []) hr1;exact⟨z2,fun t b hb=>hz2 t b (hz1 t b hb),hs2,.cons (hr1'.on' ⟨hz2,fun _ _ _=>rfl⟩) hr2',hm2.trans hm1,hn2.trans hn1⟩
end
end
section
variable {P:Program} {E:Env} {N:Nat} {st:AS} {th:List NLoc} {z:Ag} {a:Act} {w:World} {o:List (Nat×Nd)} {n:Nat}
theorem EH (w:World)(x:Obj):Ext w (w.alloc x):=⟨by simp,fun b hb=>by show(w.heap.push x)[b]?=_;simp[Array.getElem?_push,show b≠w.heap.size by omega],⟨rfl,rfl,rfl⟩⟩
theorem Ev (w:World)(x:Obj):(w.alloc x).heap[w.heap.size]?=some x:=by show(w.heap.push x)[w.heap.size]?=_;simp
theorem Sim.add (h:Sim E N st th z a w){w':World}(e:Ext w w')(L:NLoc)(nd:Nd)(hb:w.heap.size≤L.b)(hb':L.b<w'.heap.size)(hn:NdAt w' z (th++[L]) L nd)(hu: ∀T k els op,nd= .ul T k els op→UlAt w' z (th++[L]) (fun _=>False) L els op:=by intro _ _ _ _ h;cases h):
  Sim E N {st with o:=(st.n,nd)::st.o,n:=st.n+1} (th++[L]) z a w':=
 ⟨h.mem.add e L nd hb hb' hn hu,h.size,h.dfs,fun i x hi=>let ⟨y,hy,hr⟩:=h.slots i x hi;⟨y,hy,hr.on (e.le (fun _ _ h=>h) h.mem.zlt) [L]⟩⟩
theorem Sim.get_new (h:Sim E N st th z a w)(L:NLoc):(th++[L])[st.n]?=some L:=by rw[←h.mem.len];simp
theorem Sim.box (h:Sim E N st th z a w)(T:TypeId){x:AV}{v:Value}(hr:Rep w z th x v)(ho:x.okPart=true):
  ∃L,Sim E N {st with o:=(st.n,.box T x.cells)::st.o,n:=st.n+1} (th++[L]) z a (w.alloc (.cells v.cells T))∧Rep (w.alloc (.cells v.cells T)) z (th++[L]) (.p st.n 0 0) (.pointer (some ⟨w.heap.size,0,none⟩))∧Ext w (w.alloc (.cells v.cells T)):=by
 have e:=EH w (.cells v.cells T);refine⟨⟨w.heap.size,0,0,1,false⟩,h.add e ⟨w.heap.size,0,0,1,false⟩ _ (Nat.le_refl _) (by simp) ?_,?_,e⟩
 ·exact⟨rfl,v.cells,(0,0),Ev _ _,fun i _=>by simp,rfl,(CL hr ho).on (e.le (fun _ _ h=>h) h.mem.zlt) _⟩
 ·exact .p _ _ 0 0 _ (h.get_new _)
theorem Mem.write (h:Mem E o n th z w){i:Nat}{nd nd':Nd}{L:NLoc}(hi:lk o i=some nd)(hL:th[i]?=some L)(hph:L.ph=false){w':World}(hy:Sys w w')(hs:w'.heap.size=w.heap.size)(hsame: ∀b,b≠L.b→w'.heap[b]?=w.heap[b]?)(hn:NdAt w' z th L nd')(hu: ∀T k els op,nd'= .ul T k els op→ ∀U,UlOK U E o th z w→UlAt w' z th (U i) L els op:=by intro _ _ _ _ h;cases h):
  Mem E ((i,nd')::o) n th z w':=by
 obtain⟨L',h1,h2,h3⟩:=h.nds i _ hi;rw[hL] at h1;cases h1;obtain⟨h3,h4,h5⟩:=h3 hph;have le:Le w z w' z:=⟨fun _ _ h=>h,fun t b hb=>hsame b (fun e=>by subst e;exact h4 t hb)⟩
 have hlk: ∀j x,lk ((i,nd')::o) j=some x→(i=j∧x=nd')∨(i≠j∧lk o j=some x):=by
  intro j x hj;simp only[lk] at hj;split at hj
  ·rename_i e;cases hj;exact .inl ⟨e,rfl⟩
  ·rename_i e;exact .inr ⟨e,hj⟩
 have hex: ∀j x,lk ((i,nd')::o) j=some x→ ∃y,lk o j=some y:=by
  intro j x hj
  rcases hlk j x hj with ⟨rfl,_⟩ |⟨_,hj⟩
  ·exact⟨_,hi⟩
  ·exact⟨_,hj⟩
 refine⟨h.len,fun j x hj=>?_,fun p q x y M M' hp hq hM hM' e1 e2 hb=>?_,fun t b hb=>by rw[hs];exact h.zlt t b hb,by rw[hs];exact h.grow,fun b hb ho=>?_,h.zin,h.zout,h.zb,fun g cs hg=>?_,h.pre,h.sys.trans hy,?_⟩
 ·rcases hlk j x hj with ⟨rfl,rfl⟩ |⟨hne,hj⟩
  ·exact⟨L,hL,hn,fun _=>⟨by rw[hs];exact h3,h4,h5⟩⟩
  ·obtain⟨M,k1,k2,k3⟩:=h.nds j x hj
   have hb:M.ph=false→M.b≠L.b:=fun hp e=>hne (h.inj i j _ _ L M hi hj hL k1 hph hp e.symm);exact⟨M,k1,by simpa using k2.on le (fun hp=>hsame _ (hb hp)) [],fun hp=>⟨by rw[hs];exact(k3 hp).1,(k3 hp).2⟩⟩
 ·obtain⟨x',hx'⟩:=hex p x hp
  obtain⟨y',hy'⟩:=hex q y hq;exact h.inj p q x' y' M M' hx' hy' hM hM' e1 e2 hb
 ·have:b≠L.b:=fun e=>by
   subst e
   rcases h5 with h5 |h5
   ·exact ho h5
   ·omega
  exact(hsame b this).trans (h.frame b hb ho)
 ·obtain⟨k1,k2⟩:=h.globs g cs hg
  exact⟨k1,fun j v hv=>(CX (le.same _ _ k1) _).trans (k2 j v hv)⟩
 ·obtain⟨U,hU⟩:=h.uls
  have hUL: ∀j b,U j b→b≠L.b:=fun j b hb e=>by subst e;exact hU.kn i _ L j hi hL hph hb
  refine⟨U,fun j T k els op M hj hM=>?_,fun j b hb=>by rw[hs];exact hU.lt j b hb,hU.nz,hU.ow,hU.inj,fun j x M q hj hM hp=>?_⟩
  ·rcases hlk j _ hj with ⟨rfl,he⟩ |⟨hne,hj⟩
   ·rw[hL] at hM;cases hM
    exact hu T k els op he.symm U hU
   ·obtain⟨M',k1,k2,k3⟩:=h.nds j _ hj
    rw[hM] at k1;cases k1
    have hbM:els=[]∨w'.heap[M.b]?=w.heap[M.b]?:=by
     rcases k2.ul_nil with h6 |h6
     ·exact .inl h6
     ·exact .inr (hsame _ (fun e=>hne (h.inj i j _ _ L M hi hj hL hM hph h6 e.symm)))
    have:=(hU.at_ j T k els op M hj hM).on le (fun b hb=>hsame b (hUL j b hb)) hbM [];simpa using this
  ·obtain⟨y',hy'⟩:=hex j x hj
   exact hU.kn j y' M q hy' hM hp
theorem Sim.write (h:Sim E N st th z a w){i:Nat}{nd nd':Nd}{L:NLoc}(hi:lk st.o i=some nd)(hL:th[i]?=some L)(hph:L.ph=false){w':World}(hy:Sys w w')(hs:w'.heap.size=w.heap.size)(hsame: ∀b,b≠L.b→w'.heap[b]?=w.heap[b]?)(hn:NdAt w' z th L nd')(hu: ∀T k els op,nd'= .ul T k els op→ ∀U,UlOK U E st.o th z w→UlAt w' z th (U i) L els op:=by intro _ _ _ _ h;cases h):
  Sim E N {st with o:=(i,nd')::st.o} th z a w':=by
 refine⟨h.mem.write hi hL hph hy hs hsame hn hu,h.size,h.dfs,fun j x hj=>?_⟩;obtain⟨y,hy,hr⟩:=h.slots j x hj;obtain⟨L',h1,_,h3⟩:=h.mem.nds i _ hi;rw[hL] at h1;cases h1;exact⟨y,hy,hr.on' ⟨fun _ _ h=>h,fun t b hb=>hsame b (fun e=>by subst e;exact(h3 hph).2.1 t hb)⟩⟩
def DJ (cs:Array Value):Nat→List Value→Array Value
 |_,[]=>cs
 |o,v::r=>DJ (cs.setIfInBounds o v) (o+1) r
theorem Bh: ∀(vs:List Value)(o:Nat)(cs:Array Value),(DJ cs o vs).size=cs.size
 | [],_,_=>rfl
 |v::r,o,cs=>by simp only[DJ];rw[Bh r];simp
theorem C7: ∀(vs:List Value)(o:Nat)(cs:Array Value),o+vs.length≤cs.size→ ∀i,(DJ cs o vs)[i]?=if o≤i∧i<o+vs.length then vs[i - o]? else cs[i]?
 | [],o,cs,_,i=>by simp only[DJ,List.length_nil];rw[if_neg (by omega)]
 |v::r,o,cs,h,i=>by
  simp only[List.length_cons] at h ⊢;simp only[DJ];rw[C7 r (o+1) _ (by simp;omega)]
  by_cases h1:i=o
  ·subst h1
   rw[if_neg (by omega),if_pos (by omega)];simp[show i<cs.size by omega]
  ·rw[Array.getElem?_setIfInBounds_ne (Ne.symm h1)]
   by_cases h2:o+1≤i∧i<o+1+r.length
   ·rw[if_pos h2,if_pos (by omega),show i - o=(i - (o+1))+1 by omega,List.getElem?_cons_succ]
   ·rw[if_neg h2,if_neg (by omega)]
theorem CW (b:Nat): ∀(vs:List Value)(o:Nat)(w:World)(cells:Array Value)(T:TypeId)(fr:Nat×Nat),w.heap[b]?=some (.cells cells T fr)→
  (w.setCells b o vs).heap.size=w.heap.size∧(∀b',b'≠b→(w.setCells b o vs).heap[b']?=w.heap[b']?)∧(w.setCells b o vs).heap[b]?=some (.cells (DJ cells o vs) T fr)
 | [],o,w,cells,T,fr,h=>⟨rfl,fun _ _=>rfl,h⟩
 |v::r,o,w,cells,T,fr,h=>by
  have hs:(w.setCell ⟨b,o,none⟩ v).heap.size=w.heap.size:=by simp[World.setCell]
  have hb:(w.setCell ⟨b,o,none⟩ v).heap[b]?=some (.cells (cells.setIfInBounds o v) T fr):=by
   simp only[World.setCell,Array.getElem?_modify,if_true,h,Option.map_some]
   rfl
  have hn: ∀b',b'≠b→(w.setCell ⟨b,o,none⟩ v).heap[b']?=w.heap[b']?:=by
   intro b' hne;simp only[World.setCell,Array.getElem?_modify,if_neg (Ne.symm hne)]
  obtain⟨i1,i2,i3⟩:=CW b r (o+1) (w.setCell ⟨b,o,none⟩ v) _ T fr hb;exact⟨i1.trans hs,fun b' hne=>(i2 b' hne).trans (hn b' hne),i3⟩
theorem BZ (b:Nat): ∀(vs:List Value)(o:Nat)(w:World),Sys w (w.setCells b o vs)
 | [],_,w=>Sys.refl w
 |v::r,o,w=>(show Sys w (w.setCell ⟨b,o,none⟩ v) from⟨rfl,rfl,rfl⟩).trans (BZ b r (o+1) _)
theorem G0 {x:AV}{v:Value}(hr:Rep w z th x v)(h:x.cell1=true):v.oneCell'=true:=by
 cases hr
 case r=>cases v<;>first |rfl |(simp[AV.cell1] at h)
 all_goals first |rfl |(simp[AV.cell1] at h)
end
end Go.AM
namespace Go.AM
open Go
def C2 (st:AS)(nd:Nd):AS:={st with o:=(st.n,nd)::st.o,n:=st.n+1}
def BO (st:AS)(i:Nat)(nd:Nd):AS:={st with o:=(i,nd)::st.o}
def GE (sz:Nat):Nat→List Nat→List AV→Option (List (List AV))
 |_,[],[]=>some []
 |i,j::is,x::r=>if j=i∧x.cells.length=sz∧x.okPart=true∧x.cells.all AV.cell1=true then (GE sz (i+1) is r).map (x.cells:: ·) else none
 |_,_,_=>none
def Iv (st:AS)(k:Nat)(yt:TK)(x:AV):Option (List (List AV)):=
 match yt with
 | .slice _=>Ci st k x
 | .str=>match x with
   | .r (.string s)=>if k=1 then some (s.data.toList.map I_) else none
   |_=>none
 |_=>none
def GM (P:Program)(G:List (Nat×List Value))(st:AS)(args:Array Operand)(ats:Array TypeId):Option (Prop×AV×AS):=
 match ats.toList with
 | [T,T']=>match AT P T' with
   |some ⟨.int _,_,_,_⟩=>match AT P T,Du st G args.toList with
    |some ⟨.slice e,_,_,_⟩,some [.r (.slice none 0 0),.r (.int .i64 n)]=>match AT P e with
     |some ⟨_,sz,bytes,some zs⟩=>some ((0<n∧n≤9223372036854775807∧n * bytes≤140737488355328∧0<sz∧zs.length=sz∧zs.all Value.oneCell'=true),.s st.n 0 n.toNat,C2 st (.lst e sz (List.replicate n.toNat (zs.map .r))))
     |_=>none
    |_,_=>none
   |_=>none
 |_=>none
def LZ (P:Program)(G:List (Nat×List Value))(st:AS)(op:Op)(k:AV→AS→Prop):Prop:=
 match op with
 | .box T x=>match AT P T,ev st G x with
   |some _,some x=>x.okPart=true∧k (.p st.n 0 0) (C2 st (.box T x.cells))
   |_,_=>False
 | .alloc T=>match AT P T with
   |some ⟨_,_,_,some zs⟩=>k (.p st.n 0 0) (C2 st (.box T (zs.map .r)))
   |_=>False
 | .buildSlice T len parts=>match AT P T,Du st G (parts.toList.map (·.2)) with
   |some ⟨.slice e,_,_,_⟩,some c=>match AT P e,IE st c with
    |some ⟨_,sz,_,some _⟩,some (c',st')=>match GE sz 0 (parts.toList.map (·.1)) c' with
     |some els=>(len=els.length∧len * sz≤16777216)∧k (.s st'.n 0 len) (C2 st' (.lst e sz els))
     |none=>False
    |_,_=>False
   |_,_=>False
 | .store T x v=>match AT P T,ev st G x,ev st G v with
   |some y,some (.p n i off),some v=>match lk st.o n with
    |some (.box T' c)=>if i=0∧v.cells.length=y.size∧off+y.size≤c.length∧v.okPart=true∧v.cells.all AV.cell1=true then k (.r (.tuple #[])) (BO st n (.box T' (splice c off v.cells))) else False
    |some (.lst T' k' els)=>match GL st v with
     |some (v',st')=>match lk st'.o n,els[i]? with
      |some (.lst _ _ _),some e=>(v'.cells.length=y.size∧off+y.size≤e.length∧v'.okPart=true∧v'.cells.all AV.cell1=true)∧k (.r (.tuple #[])) (BO st' n (.lst T' k' (els.set i (splice e off v'.cells))))
      |_,_=>False
     |none=>False
    |_=>False
   |_,_,_=>False
 | .call {callee:= .builtin .append,args,argTypes}=>match GM P G st args argTypes with
  |some (c,v,s)=>c∧k v s
  |none=>match Du st G args.toList,argTypes.toList with
   |some [b,x],[T,T']=>match AT P T,AT P T' with
    |some ⟨.slice e,_,_,_⟩,some y'=>match AT P e with
     |some ⟨_,sz,bytes,some zs⟩=>match Iv st sz y'.k x with
      |some new=>match b with
       | .r (.slice none 0 0)=>(zs.length=sz∧0<sz∧new.length * bytes≤140737488355328∧new.length≤9223372036854775807)∧k (.s st.n 0 new.length) (C2 st (.lst e sz new))
       | .s n lo len=>match lk st.o n with
         |some (.lst T2 k' els)=>(T2=e∧zs.length=sz∧k'=sz∧0<sz∧lo+len≤els.length∧(len+new.length) * bytes≤140737488355328∧len+new.length≤9223372036854775807)∧
          k (.s st.n 0 (len+new.length)) (C2 {st with o:=rm st.o n} (.lst e sz ((els.drop lo).take len++new)))
         |_=>False
       |_=>False
      |none=>False
     |_=>False
    |_,_=>False
   |_,_=>False
 | .call {callee:= .builtin .clear,args,argTypes}=>match Du st G args.toList,argTypes.toList with
   |some [x],[T]=>match AT P T with
    |some ⟨.slice e,_,_,_⟩=>match AT P e,x with
     |some ⟨_,sz,_,some zs⟩,.s n lo len=>match lk st.o n with
      |some (.lst T2 k' els)=>(zs.length=sz∧k'=sz∧0<sz∧lo+len≤els.length∧zs.all Value.oneCell'=true)∧k (.r (.tuple #[])) (BO st n (.lst T2 k' (els.take lo++List.replicate len (zs.map .r)++els.drop (lo+len))))
      |_=>False
     |_,_=>False
    |_=>False
   |_,_=>False
 | .makeSlice T l c=>match AT P T,ev st G l,ev st G c with
   |some ⟨.slice e,_,_,_⟩,some (.r (.int _ n)),some (.r (.int _ n'))=>match AT P e with
    |some ⟨_,sz,bytes,some zs⟩=>(n=n'∧0≤n∧n≤9223372036854775807∧n * bytes≤281474976710656∧0<sz∧zs.length=sz∧zs.all Value.oneCell'=true)∧k (.s st.n 0 n.toNat) (C2 st (.lst e sz (List.replicate n.toNat (zs.map .r))))
    |_=>False
   |_,_,_=>False
 |_=>False
section
variable {P:Program} {E:Env} {N:Nat} {st:AS} {th:List NLoc} {z:Ag} {a:Act} {w:World}
def EN (st:AS)(G:List (Nat×List Value)):Op→List Nat
 | .store _ x _=>match ev st G x with
   |some (.p n _ _)=>[n]
   |_=>[]
 | .mapUpdate _ x _ _=>match ev st G x with
   |some (.q n)=>[n]
   |_=>[]
 | .call {callee:= .builtin .append,args,..}=>match Du st G args.toList with
   |some (.s n _ _::_)=>[n]
   |_=>[]
 | .call {callee:= .builtin .clear,args,..}=>match Du st G args.toList with
   |some (.s n _ _::_)=>[n]
   |_=>[]
 |_=>[]
def JZ (P:Program)(E:Env)(N:Nat)(o:Oper)(a:Act)(w:World)(th:List NLoc)(ts:List Nat)(m:List (Nat×AV))(k:AV→AS→Prop)(grows:Bool):Prop:=
 ∃v x st' th' z' w',((execOp a.eval o).run P w= .ok (.value v) w'∨((execOp a.eval o).run P w= .ok .skip w'∧v=undef))∧k x st'∧Sim E N st' th' z' a w'∧Rep w' z' th' x v∧st'.m=m∧(grows=true→Ext w w')∧Later th th'∧ExtT th ts w w'
theorem N1 {l:List AV}{p:AV→Bool}(h:l.all p=true){i:Nat}{x:AV}(hi:l[i]?=some x):p x=true:=List.all_eq_true.1 h x (List.mem_of_getElem? hi)
theorem KC (h:Sim E N st th z a w){T:TypeId}{X:Operand}{d:Option Nat}{t:TypeId}{pos:String}{aft:Array Edge}{g:Option (Nat×Bool)}{k:AV→AS→Prop}(hk:LZ P E.G st (.box T X) k):JZ P E N ⟨d,.box T X,t,pos,aft,g⟩ a w th [] st.m k true:=by
 simp only[LZ] at hk;split at hk
 ·rename_i x hT he
  obtain⟨ho,hk⟩:=hk;obtain⟨L,h1,h2,h3⟩:=h.box T (AN h he) ho;exact⟨_,_,_,th++[L],z,_,.inl rfl,hk,h1,h2,rfl,fun _=>h3,Br _ _,h3.t⟩
 ·exact hk.elim
theorem Gl (h:Sim E N st th z a w){T:TypeId}{d:Option Nat}{t:TypeId}{pos:String}{aft:Array Edge}{g:Option (Nat×Bool)}{k:AV→AS→Prop}(hk:LZ P E.G st (.alloc T) k):JZ P E N ⟨d,.alloc T,t,pos,aft,g⟩ a w th [] st.m k true:=by
 simp only[LZ] at hk;split at hk
 ·rename_i kk sz by' zs hT
  obtain⟨v0,hz⟩:=Ch hT;have e:=EH w (.cells v0.cells T);have hS:=h.add e ⟨w.heap.size,0,0,1,false⟩ (.box T (zs.map .r)) (Nat.le_refl _) (by simp) ⟨rfl,v0.cells,(0,0),Ev _ _,fun i _=>by simp,rfl,by rw[(hz w).2];exact Reps.plain zs⟩;exact⟨.pointer (some ⟨w.heap.size,0,none⟩),_,_,_,z,_,.inl (by simp only[execOp,Instr.alloc,Sem.run_bind,(hz w).1,Result.andThen_ok];rfl),hk,hS,.p _ _ 0 0 _ (h.get_new _),rfl,fun _=>e,Br _ _,e.t⟩
 ·exact hk.elim
theorem H5 {α:Type}{k:Nat}: ∀ {ls:List (List α)},(∀l ∈ ls,l.length=k)→ ∀ {i j:Nat}{l:List α}{x:α},ls[i]?=some l→l[j]?=some x→ls.flatten[i * k+j]?=some x
 | [],_,i,j,l,x,h,_=>by simp at h
 |y::r,hl,0,j,l,x,h,hx=>by
  simp at h;subst h;have hj:j<y.length:=(List.getElem?_eq_some_iff.1 hx).1;rw[List.flatten_cons,Nat.zero_mul,Nat.zero_add,List.getElem?_append_left hj];exact hx
 |y::r,hl,i+1,j,l,x,h,hx=>by
  have hy:=hl y (by simp);rw[List.flatten_cons,List.getElem?_append_right (by rw[hy,Nat.add_mul];omega),hy,show(i+1) * k+j - k=i * k+j by rw[Nat.add_mul];omega];exact H5 (fun l hl'=>hl l (by simp[hl'])) (by simpa using h) hx
theorem IW {sz:Nat}: ∀(is:List Nat)(c:List AV)(i:Nat)(vs:List Value)(els:List (List AV))(ys:Array Value),GE sz i is c=some els→Reps w z [] c vs→(i+els.length) * sz≤ys.size→
  ∃us:Array Value,∃cs:List (List Value),Instr.fill (fun i=>some (i * sz,sz)) ys (is.zip vs)=some us∧us.toList=ys.toList.take (i * sz)++cs.flatten++ys.toList.drop ((i+els.length) * sz)∧cs.length=els.length∧(∀l ∈ cs,l.length=sz)∧
   (∀l ∈ els,l.length=sz)∧ ∀(j:Nat)(e:List AV)(d:List Value),els[j]?=some e→cs[j]?=some d→Reps w z [] e d∧ ∀u ∈ d,u.oneCell'=true
 | [],[],i,vs,els,ys,h,hr,hle=>by
   simp only[GE,Option.some.injEq] at h;subst h;exact⟨ys,[],by simp[Instr.fill],by simp,rfl,by simp,by simp,by simp⟩
 |j::is,x::r,i,vs,els,ys,h,hr,hle=>by
  simp only[GE] at h;split at h
  ·rename_i hc;obtain⟨rfl,h2,h3,h4⟩:=hc
   simp only[Option.map_eq_some_iff] at h;obtain⟨els',h5,rfl⟩:=h;obtain⟨v,vs',rfl,hv,hvs⟩:=hr.head;have hcells:=CL hv h3
   have hsz:v.cells.size=sz:=by
    have:=hcells.1;rw[h2] at this;simpa using this
   simp only[List.length_cons] at hle ⊢
   have e1:(j+(els'.length+1)) * sz=j * sz+sz+els'.length * sz:=by rw[Nat.add_mul,Nat.add_mul];omega
   have key:=EV (j * sz) v.cells.toList 0 ys (by simp[hsz];omega);simp only[Nat.add_zero,Array.length_toList,hsz] at key
   obtain⟨us,cs,g1,g2,g3,g4,g5,g6⟩:=IW is r (j+1) vs' els' (v.cells.zipIdx.foldl (fun cs (c,i)=>cs.setIfInBounds (j * sz+i) c) ys) h5 hvs (by
    have:(v.cells.zipIdx.foldl (fun cs (c,i)=>cs.setIfInBounds (j * sz+i) c) ys).toList.length=ys.size:=by
     rw[←Array.foldl_toList,Array.toList_zipIdx];have:=congrArg List.length key;simp at this;simp only[Array.length_toList];rw[this,hsz];omega
    rw[Array.length_toList] at this;rw[this]
    have:(j+1+els'.length) * sz=j * sz+sz+els'.length * sz:=by rw[Nat.add_mul,Nat.add_mul];omega
    omega)
   rw[←Array.foldl_toList,Array.toList_zipIdx] at g2;refine⟨us,v.cells.toList::cs,?_,?_,by simp[g3],?_,?_,?_⟩
   ·simp only[List.zip_cons_cons,Instr.fill]
    rw[if_neg (by simp[hsz];omega)];exact g1
   ·rw[g2,key]
    have hl:(ys.toList.take (j * sz)).length=j * sz:=by rw[List.length_take];simp;omega
    have l1:(ys.toList.take (j * sz)++v.cells.toList).length=(j+1) * sz:=by rw[List.length_append,hl,Nat.add_mul];simp[hsz]
    have t1: ∀C:List Value,List.take ((j+1) * sz) (ys.toList.take (j * sz)++v.cells.toList++C)=ys.toList.take (j * sz)++v.cells.toList:=fun C=>by rw[←l1,List.take_left'];rfl
    have t2:List.drop ((j+1+els'.length) * sz) (ys.toList.take (j * sz)++v.cells.toList++List.drop (j * sz+sz) ys.toList)=List.drop ((j+(els'.length+1)) * sz) ys.toList:=by
     rw[show(j+1+els'.length) * sz=(j+1) * sz+els'.length * sz by rw[Nat.add_mul],←List.drop_drop];rw[show List.drop ((j+1) * sz) (ys.toList.take (j * sz)++v.cells.toList++List.drop (j * sz+sz) ys.toList)=List.drop (j * sz+sz) ys.toList by rw[←l1,List.drop_left'];rfl];rw[List.drop_drop];congr 1;omega
    rw[t1,t2];simp
   ·intro l hl
    rcases List.mem_cons.1 hl with rfl |hl
    ·simpa using hsz
    ·exact g4 l hl
   ·intro l hl
    rcases List.mem_cons.1 hl with rfl |hl
    ·exact h2
    ·exact g5 l hl
   ·intro q e d he hd
    cases q with
    |zero=>
     simp at he hd;subst he hd
     exact⟨hcells,fun u hu=>by
      obtain⟨i,hi⟩:=List.mem_iff_getElem?.1 hu
      have hi':i<x.cells.length:=by rw[←hcells.1];exact(List.getElem?_eq_some_iff.1 hi).1
      exact G0 (hcells.2 i x.cells[i] u (by simp[hi']) hi) (N1 h4 (show x.cells[i]?=some x.cells[i] by simp[hi']))⟩
    |succ q=>exact g6 q e d (by simpa using he) (by simpa using hd)
  ·cases h
 | [],_::_,_,_,_,_,h,_,_=>by simp[GE] at h
 |_::_,[],_,_,_,_,h,_,_=>by simp[GE] at h
end
end Go.AM
namespace Go.AM
open Go
section
variable {P:Program} {E:Env} {N:Nat} {st:AS} {th:List NLoc} {z:Ag} {a:Act} {w:World}
theorem NdAt.of_rows {L:NLoc}{T:TypeId}{k:Nat}{els:List (List AV)}{cs:List (List Value)}{cells:Array Value}{rest:List Value}(hb:w.heap[L.b]?=some (.cells cells T (0,0)))(hp:L.ph=false)(ho:L.o=0)(hk:L.k=k)(hc:cells.toList=cs.flatten++rest)(hcap:L.cap * k≤cells.size)
  (hlen:cs.length=els.length) (hle:els.length≤L.cap) (h1: ∀l ∈ cs,l.length=k) (h2: ∀l ∈ els,l.length=k) (h3: ∀(j:Nat)(e:List AV)(d:List Value),els[j]?=some e→cs[j]?=some d→Reps w z [] e d∧ ∀u ∈ d,u.oneCell'=true):NdAt w z th L (.lst T k els):=by
 refine .inr ⟨hp,cells,(0,0),hb,fun i _=>by simp,hk,by rw[ho,hk];omega,hle,fun i e he=>⟨by rw[hk];exact h2 e (List.mem_of_getElem? he),fun j x hj=>?_⟩⟩
 have hi:i<cs.length:=by rw[hlen];exact(List.getElem?_eq_some_iff.1 he).1
 have hd:cs[i]?=some cs[i]:=by simp[hi]
 obtain⟨hr,h4⟩:=h3 i e _ he hd;obtain⟨y,hy,hr'⟩:=hr.get hj;refine⟨y,?_,hr',h4 y (List.mem_of_getElem? hy)⟩;have:=H5 h1 hd hy;rw[←Array.getElem?_toList,hc,ho,hk,Nat.zero_add,List.getElem?_append_left (List.getElem?_eq_some_iff.1 this).1];exact this
theorem Ih (h:Sim E N st th z a w){T e s1 b1 sz by':Nat}{z1:Option (List Value)}{kk:TK}{zs:List Value}{parts:Array (Nat×Operand)}(hT:AT P T=some ⟨.slice e,s1,b1,z1⟩)(hTe:AT P e=some ⟨kk,sz,by',some zs⟩){c':List AV}{els:List (List AV)}
  (hr:Reps w z [] c' ((parts.toList.map (·.2)).map a.eval)) (hels:GE sz 0 (parts.toList.map (·.1)) c'=some els) (hle:els.length * sz≤16777216) {d:Option Nat} {t:TypeId} {pos:String} {aft:Array Edge} {g:Option (Nat×Bool)}:
  ∃w',(execOp a.eval ⟨d,.buildSlice T els.length parts,t,pos,aft,g⟩).run P w= .ok (.value (.slice (some ⟨w.heap.size,0,none⟩) els.length els.length)) w'∧Ext w w'∧Sim E N (C2 st (.lst e sz els)) (th++[⟨w.heap.size,0,sz,els.length,false⟩]) z a w':=by
 obtain⟨v0,hz0⟩:=Ch hTe;obtain⟨i,dd,hi1,hi2,hi3⟩:=BL hTe;simp only[TY.mk.injEq] at hi3;have hsz0:(zeroValue e).run P w= .ok v0 w:=(hz0 w).1
 let zeros:Array Value:=(Array.range (els.length * sz)).map ((if els.length * sz=0 then #[] else v0.cells)[· % (if els.length * sz=0 then #[] else v0.cells).size]!)
 obtain⟨us,cs,g1,g2,g3,g4,g5,g6⟩:=IW (parts.toList.map (·.1)) c' 0 _ els zeros hels hr (by simp[zeros]);simp only[Nat.zero_mul,List.take_zero,List.nil_append,Nat.zero_add] at g2
 have hzip:(parts.toList.map (·.1)).zip ((parts.toList.map (·.2)).map a.eval)=parts.toList.map fun p=>(p.1,a.eval p.2):=by
  rw[List.map_map,List.zip_map'];rfl
 rw[hzip] at g1;have hd:zeros.toList.drop (els.length * sz)=[]:=List.drop_of_length_le (by simp[zeros]);rw[hd] at g2
 have hus:us.size=els.length * sz:=by
  have:us.toList.length=cs.length * sz:=by
   rw[g2,List.append_nil];clear g1 g2 g3 g6
   induction cs with
   |nil=>simp
   |cons l r ih=>rw[List.flatten_cons,List.length_append,g4 l (by simp),ih (fun l hl=>g4 l (by simp[hl])),List.length_cons,Nat.add_mul];omega
  rw[g3] at this;simpa using this
 have ex:=EH w (.cells us e);have le:Le w z (w.alloc (.cells us e)) z:=ex.le (fun _ _ h=>h) h.mem.zlt;have hS':=h.add ex ⟨w.heap.size,0,sz,els.length,false⟩ (.lst e sz els) (Nat.le_refl _) (by simp)
  (NdAt.of_rows (cs:=cs) (cells:=us) (rest:=[]) (Ev _ _) rfl rfl rfl g2 (by simp[hus]) g3 (Nat.le_refl _) g4 g5 (fun j e d he hd=>⟨by simpa using(g6 j e d he hd).1.on le [],(g6 j e d he hd).2⟩))
 refine⟨w.alloc (.cells us e),?_,ex,hS'⟩;have hund:=AE (w:=w) (Aw hT rfl);have hsz:=B9 (w:=w) hTe;simp only[execOp,Instr.buildSlice,Sem.run_bind,hund,hsz,Result.andThen_ok];rw[if_neg (by omega)]
 have hfill: ∀C:Array Value,C=zeros→Instr.fill (fun i=>some (i * sz,sz)) C (parts.map fun p=>(p.1,a.eval p.2)).toList=some us:=by
  intro C hC;subst hC;simpa using g1
 by_cases h0:els.length * sz=0
 ·simp only[h0,if_true,Sem.run_bind,Sem.run_pure,Result.andThen_ok]
  have:=hfill ((Array.range 0).map ((#[]:Array Value)[· % (#[]:Array Value).size]!)) (by simp[zeros,h0]);simp only[this]
  rfl
 ·simp only[h0,if_false,Sem.run_bind,hsz0,Sem.run_pure,Result.andThen_ok]
  have:=hfill ((Array.range (els.length * sz)).map (v0.cells[· % v0.cells.size]!)) (by simp[zeros,h0]);simp only[this]
  rfl
theorem IX (h:Sim E N st th z a w){T:TypeId}{len:Nat}{parts:Array (Nat×Operand)}{d:Option Nat}{t:TypeId}{pos:String}{aft:Array Edge}{g:Option (Nat×Bool)}{k:AV→AS→Prop}(hk:LZ P E.G st (.buildSlice T len parts) k):
  JZ P E N ⟨d,.buildSlice T len parts,t,pos,aft,g⟩ a w th [] st.m k true:=by
 simp only[LZ] at hk;split at hk
 ·rename_i e s1 b1 z1 c hT he
  split at hk
  ·rename_i sz by' zs c' st' hTe hf
   split at hk
   ·rename_i els hels
    obtain⟨⟨rfl,hle⟩,hk⟩:=hk;obtain⟨z',hz,hS,hr,hm,hn⟩:=EU c h (Bs h he) hf;obtain⟨w',g1,g2,g3⟩:=Ih hS (d:=d) (t:=t) (pos:=pos) (aft:=aft) (g:=g) hT hTe hr hels hle;exact⟨_,_,_,_,z',w',.inl g1,hk,g3,.s _ _ 0 _ _ 0 _ (hS.get_new _) rfl (Nat.le_refl _) (by simp) (fun _=>by simp),hm,fun _=>g2,Br _ _,g2.t⟩
   ·exact hk.elim
  ·exact hk.elim
 ·exact hk.elim
theorem Jm (vs:List Value)(o:Nat)(cs:Array Value)(h:o+vs.length≤cs.size):(DJ cs o vs).toList=cs.toList.take o++vs++cs.toList.drop (o+vs.length):=by
 apply List.ext_getElem?;intro i;rw[Array.getElem?_toList,C7 vs o cs h]
 have hl:(cs.toList.take o).length=o:=by rw[List.length_take];simp;omega
 by_cases h1:i<o
 ·rw[if_neg (by omega),List.append_assoc,List.getElem?_append_left (by omega),List.getElem?_take_of_lt h1,Array.getElem?_toList]
 ·by_cases h2:i<o+vs.length
  ·rw[if_pos (by omega),List.append_assoc,List.getElem?_append_right (by omega),hl,List.getElem?_append_left (by omega)]
  ·rw[if_neg (by omega),List.getElem?_append_right (by simp[hl];omega),List.getElem?_drop]
   simp only[List.length_append,hl,Array.getElem?_toList]
   congr 1;omega
theorem FU {cs new:List AV}{off:Nat}(h:off+new.length≤cs.length):(splice cs off new).length=cs.length:=by
 unfold splice;simp;omega
theorem El {T:TypeId}{y:TY}(hT:AT P T=some y){b o:Nat}{v:Value}(hs:v.cells.size=y.size){cells:Array Value}{S:TypeId}{fr:Nat×Nat}(hb:w.heap[b]?=some (.cells cells S fr))(hf:Ly cells fr)(ho:o+y.size≤cells.size)(h1: ∀u ∈ v.cells.toList,u.oneCell'=true):
  (Instr.storeAt T (.pointer (some ⟨b,o,none⟩)) v).run P w= .ok () (w.setCells b o v.cells.toList):=by
 have:=run_storeCells_cells (P:=P) b o v.cells.toList 0 w (fun j hj=>by
  simp at hj
  rw[CB hb];simp[show o+j<cells.size by omega]) (fun j hj=>by
  simp at hj
  exact Gd hb hf (by omega)) h1
 simp only[Instr.storeAt,Instr.sureAddr,storeVar,Sem.run_bind,Sem.run_pure,Result.andThen_ok,B9 hT];rw[if_neg (by omega)];simpa using this
theorem FF {x:AV}{v:Value}(hr:Rep w z th x v)(ho:x.okPart=true)(h:x.cells.all AV.cell1=true): ∀u ∈ v.cells.toList,u.oneCell'=true:=by
 intro u hu;have hc:=CL hr ho;obtain⟨i,hi⟩:=List.mem_iff_getElem?.1 hu
 have hi':i<x.cells.length:=by rw[←hc.1];exact(List.getElem?_eq_some_iff.1 hi).1
 exact G0 (hc.2 i x.cells[i] u (by simp[hi']) hi) (N1 h (show x.cells[i]?=some x.cells[i] by simp[hi']))
theorem Ns (h:Sim E N st th z a w){T:TypeId}{X V:Operand}{d:Option Nat}{t:TypeId}{pos:String}{aft:Array Edge}{g:Option (Nat×Bool)}{k:AV→AS→Prop}(hk:LZ P E.G st (.store T X V) k):
  JZ P E N ⟨d,.store T X V,t,pos,aft,g⟩ a w th (EN st E.G (.store T X V)) st.m k false:=by
 simp only[LZ] at hk;split at hk
 ·rename_i y n i off v hT hx hv
  obtain⟨L,hL,hp⟩:=(AN h hx).p_inv;have hr:=AN h hv
  have hts:EN st E.G (.store T X V)=[n]:=by simp only[EN,hx]
  rw[hts];split at hk
  ·rename_i T' c ho
   split at hk
   ·rename_i hc;obtain⟨rfl,h2,h3,h4,h5⟩:=hc
    obtain⟨L',k1,⟨hph,cells,fr,k2,k3,k4,k5⟩,k6⟩:=h.mem.nds _ _ ho;rw[hL] at k1;cases k1;obtain⟨k6,k7,k8⟩:=k6 hph;have hcs:=CL hr h4
    have hsz:(a.eval V).cells.size=y.size:=by have:=hcs.1;rw[h2] at this;simpa using this
    have hcl:cells.size=c.length:=by simpa using k5.1
    have hone:=FF hr h4 h5;obtain⟨q1,q2,q3⟩:=CW L.b (a.eval V).cells.toList off w cells T' fr k2;have le:Le w z (w.setCells L.b off (a.eval V).cells.toList) z:=⟨fun _ _ h=>h,fun t b hb=>q2 b (fun e=>by subst e;exact k7 t hb)⟩;refine⟨undef,.r undef,_,th,z,w.setCells L.b off (a.eval V).cells.toList,.inr ⟨?_,rfl⟩,hk,h.write ho hL hph (BZ _ _ _ _) q1 q2 ?_,.r _ _,rfl,(fun h=>by cases h),Later.refl _,⟨Nat.le_of_eq q1.symm,fun b _ hne=>q2 b (fun e=>hne n (by simp) L hL hph e.symm),BZ _ _ _ _⟩⟩
    ·have:=El (P:=P) hT (b:=L.b) (o:=off) hsz k2 k3 (by omega) hone
     simp only[execOp,hp,k4,Nat.zero_mul,Nat.zero_add,Sem.run_bind,this,Result.andThen_ok]
     rfl
    ·refine⟨hph,_,fr,q3,fun i hi=>by rw[Bh] at hi;exact k3 i hi,k4,?_⟩
     rw[Jm _ _ _ (by simp[hsz];omega)];have:=(Reps.splice (off:=off) k5 hcs).on le [];simpa using this
   ·exact hk.elim
  ·rename_i T' k' els ho
   split at hk
   ·rename_i v' st' hf
    obtain⟨z',hz,hS,hr',hm,hn⟩:=FK v h hr hf;split at hk
    ·rename_i T2 k2' els2 e ho' he
     obtain⟨⟨h2,h3,h4,h5⟩,hk⟩:=hk;obtain⟨L',k1,k2,k6⟩:=hS.mem.nds _ _ ho';rw[hL] at k1;cases k1;obtain⟨_,g1,hnd,_⟩:=h.mem.nds _ _ ho;rw[hL] at g1;cases g1
     rcases hnd with ⟨_,hn0⟩ |⟨hph,cells,fr,g2,g3,g4,g5,g6,g7⟩
     ·subst hn0;simp at he
     obtain⟨k6,k7,k8⟩:=k6 hph;have hcs:=CL hr' h4
     have hsz:(a.eval V).cells.size=y.size:=by have:=hcs.1;rw[h2] at this;simpa using this
     have hone:=FF hr' h4 h5;have hi:i<els.length:=(List.getElem?_eq_some_iff.1 he).1;have hel:=(g7 i e he).1
     have hbound:L.o+i * L.k+L.k≤cells.size:=by
      have:(i+1) * L.k≤L.cap * L.k:=Nat.mul_le_mul_right _ (by omega);rw[Nat.add_mul] at this;omega
     obtain⟨q1,q2,q3⟩:=CW L.b (a.eval V).cells.toList (L.o+i * L.k+off) w cells T' fr g2;have le:Le w z' (w.setCells L.b (L.o+i * L.k+off) (a.eval V).cells.toList) z':=⟨fun _ _ h=>h,fun t b hb=>q2 b (fun e=>by subst e;exact k7 t hb)⟩;have le0:Le w z w z':=⟨hz,fun _ _ _=>rfl⟩;refine⟨undef,.r undef,_,th,z',w.setCells L.b (L.o+i * L.k+off) (a.eval V).cells.toList,.inr ⟨?_,rfl⟩,hk,hS.write ho' hL hph (BZ _ _ _ _) q1 q2 ?_,.r _ _,hm,(fun h=>by cases h),Later.refl _,⟨Nat.le_of_eq q1.symm,fun b _ hne=>q2 b (fun e=>hne n (by simp) L hL hph e.symm),BZ _ _ _ _⟩⟩
     ·have:=El (P:=P) hT (b:=L.b) (o:=L.o+i * L.k+off) hsz g2 g3 (by omega) hone
      simp only[execOp,hp,Sem.run_bind,this,Result.andThen_ok]
      rfl
     ·have hvl:(a.eval V).cells.toList.length=y.size:=by simpa using hsz
      refine .inr ⟨hph,_,fr,q3,fun i hi=>by rw[Bh] at hi;exact g3 i hi,g4,by rw[Bh];exact g5,by simpa using g6,fun i' e' he'=>?_⟩
      by_cases hii:i=i'
      ·subst hii
       rw[List.getElem?_set_self hi] at he';cases he'
       have hl:(splice e off v'.cells).length=L.k:=by rw[FU (by rw[h2];omega)];exact hel
       refine⟨hl,fun j x hj=>?_⟩
       have hjk:j<L.k:=by rw[←hl];exact(List.getElem?_eq_some_iff.1 hj).1
       rw[C7 _ _ _ (by rw[hvl];omega)]
       by_cases hin:off≤j∧j<off+y.size
       ·rw[if_pos (by rw[hvl];omega)]
        have hjx:v'.cells[j - off]?=some x:=by
         unfold splice at hj;rw[List.append_assoc,List.getElem?_append_right (by rw[List.length_take];omega),List.length_take,show min off e.length=off by omega,List.getElem?_append_left (by rw[h2];omega)] at hj;exact hj
        obtain⟨u,hu,hru⟩:=hcs.get hjx;refine⟨u,?_,by simpa using hru.on le [],hone u (List.mem_of_getElem? hu)⟩;rw[show L.o+i * L.k+j - (L.o+i * L.k+off)=j - off by omega];exact hu
       ·rw[if_neg (by rw[hvl];omega)]
        have hjx:e[j]?=some x:=by
         unfold splice at hj
         by_cases hlt:j<off
         ·rw[List.append_assoc,List.getElem?_append_left (by rw[List.length_take];omega),List.getElem?_take_of_lt hlt] at hj;exact hj
         ·rw[List.getElem?_append_right (by rw[List.length_append,List.length_take,h2];omega),List.getElem?_drop,List.length_append,List.length_take,h2] at hj
          rw[←hj];congr 1;omega
        obtain⟨u,hu,hru,h1u⟩:=(g7 i e he).2 j x hjx;exact⟨u,hu,by simpa using(hru.on' le0).on le [],h1u⟩
      ·rw[List.getElem?_set_ne hii] at he'
       obtain⟨hl,hc⟩:=g7 i' e' he';refine⟨hl,fun j x hj=>?_⟩
       have hjk:j<L.k:=by rw[←hl];exact(List.getElem?_eq_some_iff.1 hj).1
       obtain⟨u,hu,hru,h1u⟩:=hc j x hj;refine⟨u,?_,by simpa using(hru.on' le0).on le [],h1u⟩;rw[C7 _ _ _ (by rw[hvl];omega),if_neg]
       ·exact hu
       ·rw[hvl]
        rintro⟨a1,a2⟩
        rcases Nat.lt_or_ge i i' with hlt |hge
        ·have:(i+1) * L.k≤i' * L.k:=Nat.mul_le_mul_right _ hlt
         rw[Nat.add_mul] at this;omega
        ·have:(i'+1) * L.k≤i * L.k:=Nat.mul_le_mul_right _ (by omega)
         rw[Nat.add_mul] at this;omega
    ·exact hk.elim
   ·exact hk.elim
  ·exact hk.elim
 ·exact hk.elim
theorem E5 (h:Sim E N st th z a w){T:TypeId}{X V:Operand}{d:Option Nat}{t:TypeId}{pos:String}{aft:Array Edge}{g:Option (Nat×Bool)}{k:AV→AS→Prop}(hk:LZ P E.G st (.makeSlice T X V) k):
  JZ P E N ⟨d,.makeSlice T X V,t,pos,aft,g⟩ a w th [] st.m k true:=by
 simp only[LZ] at hk;split at hk
 ·rename_i e s1 b1 z1 k1 n k2 n' hT hx hv
  split at hk
  ·rename_i kk sz bytes zs hTe
   obtain⟨⟨rfl,h0,h63,hb,hsz,hzl,hz1⟩,hk⟩:=hk;have e1:=(AN h hx).r_inv;have e2:=(AN h hv).r_inv;obtain⟨v0,hz0⟩:=Ch hTe;obtain⟨i,dd,hi1,hi2,hi3⟩:=BL hTe;simp only[TY.mk.injEq] at hi3;obtain⟨row,hrow⟩: ∃row:Array Value,row=(Array.range (n.toNat * sz)).map ((if n.toNat * sz=0 then #[] else v0.cells)[· % (if n.toNat * sz=0 then #[] else v0.cells).size]!):=⟨_,rfl⟩;have ex:=EH w (.cells row e)
   have hv0:v0.cells.size=sz:=by have:=(hz0 w).2;rw[←hzl,←this];simp
   have hS':=h.add ex ⟨w.heap.size,0,sz,n.toNat,false⟩ (.lst e sz (List.replicate n.toNat (zs.map .r))) (Nat.le_refl _) (by simp) (by
    refine .inr ⟨rfl,row,(0,0),Ev _ _,fun i _=>by simp,rfl,by simp[hrow],by simp,fun i el he=>?_⟩
    have hi:i<n.toNat:=by have:=(List.getElem?_eq_some_iff.1 he).1;simpa using this
    rw[List.getElem?_replicate,if_pos hi] at he;cases he;refine⟨by simpa using hzl,fun j x hj=>?_⟩;simp only[List.getElem?_map,Option.map_eq_some_iff] at hj;obtain⟨u,hu,rfl⟩:=hj
    have hj:j<sz:=by rw[←hzl];exact(List.getElem?_eq_some_iff.1 hu).1
    have hlt:i * sz+j<n.toNat * sz:=by
     have:(i+1) * sz≤n.toNat * sz:=Nat.mul_le_mul_right _ hi;rw[Nat.add_mul] at this;omega
    refine⟨u,?_,.r _ _,List.all_eq_true.1 hz1 u (List.mem_of_getElem? hu)⟩
    have hne: ¬n.toNat * sz=0:=by omega
    show row[0+i * sz+j]?=some u;rw[hrow,Nat.zero_add];simp only[hne,if_false,Array.getElem?_map];rw[Array.getElem?_eq_getElem (by simpa using hlt)];simp only[Array.getElem_range,Option.map_some,hv0,Option.some.injEq];rw[show(i * sz+j) % sz=j by rw[Nat.mul_comm,Nat.mul_add_mod,Nat.mod_eq_of_lt hj]]
    have:v0.cells[j]?=some u:=by rw[←(hz0 w).2] at hu;simpa using hu
    obtain⟨hlt',hg⟩:=Array.getElem?_eq_some_iff.1 this;rw[getElem!_pos v0.cells j hlt']
    exact hg)
   refine⟨.slice (some ⟨w.heap.size,0,none⟩) n.toNat n.toNat,_,_,_,z,_,.inl ?_,hk,hS',.s _ _ 0 _ _ 0 _ (h.get_new _) rfl (Nat.le_refl _) (by simp) (fun _=>by simp),rfl,fun _=>ex,Br _ _,ex.t⟩;have hund:=AE (w:=w) (Aw hT rfl);have hinfo:=CN (w:=w) hi1;have hsize:=B9 (w:=w) hTe;have hwrap:IntKind.i64.wrap n=n:=Go.IntWalk.i64_in n ⟨by omega,h63⟩
   have hbytes:(i.bytes:Int) * n≤281474976710656:=by rw[←hi3.2.2.1,Int.mul_comm];exact hb
   simp only[execOp,e1,e2,Instr.makeSlice,Sem.run_bind,hund,asInt,asIntOf,Sem.run_pure,Result.andThen_ok,hinfo,hwrap]
   have c1: ¬n<0:=by omega
   have c2: ¬(2 ^ 48<(i.bytes:Int) * n):=by omega
   have c3: ¬n>n:=by omega
   simp only[c1,c2,c3,decide_false,Bool.or_false,Bool.false_or,if_false,gt_iff_lt,Bool.false_eq_true,Sem.run_bind,run_askRoom,hsize,Result.andThen_ok]
   by_cases hn0:n.toNat * sz=0
   ·simp only[hn0,if_true,Sem.run_bind,Sem.run_pure,Result.andThen_ok]
    simp only[hn0,if_true] at hrow;rw[←hrow]
    rfl
   ·simp only[hn0,if_false,Sem.run_bind,(hz0 w).1,Sem.run_pure,Result.andThen_ok]
    simp only[hn0,if_false] at hrow;rw[←hrow]
    rfl
  ·exact hk.elim
 ·exact hk.elim
end
end Go.AM
namespace Go.AM
open Go
section
variable {P:Program} {E:Env} {N:Nat} {st:AS} {th:List NLoc} {z:Ag} {a:Act} {w:World} {o:List (Nat×Nd)} {n:Nat}
def FreeB (E:Env)(o:List (Nat×Nd))(th:List NLoc)(z:Ag)(w:World)(b:Nat):Prop:= ∃U,UlOK U E o th z w∧ ∀i,¬U i b
theorem Mem.freeB (h:Mem E o n th z w){i:Nat}{nd:Nd}{L:NLoc}(hi:lk o i=some nd)(hL:th[i]?=some L)(hp:L.ph=false){o':List (Nat×Nd)}(hs: ∀i x,lk o' i=some x→lk o i=some x):FreeB E o' th z w L.b:=
 let ⟨U,hU⟩:=h.uls;⟨U,⟨fun i T k els op L hi hL=>hU.at_ i T k els op L (hs _ _ hi) hL,hU.lt,hU.nz,hU.ow,hU.inj,fun i nd L j hi=>hU.kn i nd L j (hs _ _ hi)⟩,fun j=>hU.kn i nd L j hi hL hp⟩
theorem FreeB.other {b:Nat}(h:FreeB E o th z w b)(hm: ∀i T k els op L,lk o i=some (.ul T k els op)→th[i]?=some L→els=[]∨L.b≠b){w':World}(hs:w'.heap.size=w.heap.size)(hsame: ∀b',b'≠b→w'.heap[b']?=w.heap[b']?)(hz: ∀t,¬z t b):FreeB E o th z w' b:=by
 obtain⟨U,hU,hb⟩:=h
 have hne: ∀i b',U i b'→b'≠b:=fun i b' hb' e=>by subst e;exact hb i hb'
 have le:Le w z w' z:=⟨fun _ _ h=>h,fun t b' hb'=>hsame b' (fun e=>by subst e;exact hz t hb')⟩;refine⟨U,⟨fun i T k els op L hi hL=>?_,fun i b hb=>by rw[hs];exact hU.lt i b hb,hU.nz,hU.ow,hU.inj,hU.kn⟩,hb⟩;have:=(hU.at_ i T k els op L hi hL).on le (fun b' hb'=>hsame b' (hne i b' hb')) ((hm i T k els op L hi hL).imp id (fun h=>hsame _ h)) [];simpa using this
theorem Mem.other (h:Mem E o n th z w){w':World}{b:Nat}(hy:Sys w w')(hs:w'.heap.size=w.heap.size)(hsame: ∀b',b'≠b→w'.heap[b']?=w.heap[b']?)(hz: ∀t,¬z t b)(hn: ∀i nd L,lk o i=some nd→th[i]?=some L→L.ph=false→L.b≠b)(hb:E.own b∨E.w0.heap.size≤b)(hU:FreeB E o th z w b):Mem E o n th z w':=by
 have le:Le w z w' z:=⟨fun _ _ h=>h,fun t b' hb'=>hsame b' (fun e=>by subst e;exact hz t hb')⟩;refine⟨h.len,fun j x hj=>?_,h.inj,fun t b hb=>by rw[hs];exact h.zlt t b hb,by rw[hs];exact h.grow,fun b' hb' ho=>?_,h.zin,h.zout,h.zb,fun g cs hg=>?_,h.pre,h.sys.trans hy,?_⟩
 ·obtain⟨M,k1,k2,k3⟩:=h.nds j x hj
  exact⟨M,k1,by simpa using k2.on le (fun hp=>hsame _ (hn j x M hj k1 hp)) [],fun hp=>⟨by rw[hs];exact(k3 hp).1,(k3 hp).2⟩⟩
 ·have:b'≠b:=fun e=>by
   subst e
   rcases hb with hb |hb
   ·exact ho hb
   ·omega
  exact(hsame b' this).trans (h.frame b' hb' ho)
 ·obtain⟨k1,k2⟩:=h.globs g cs hg
  exact⟨k1,fun j v hv=>(CX (le.same _ _ k1) _).trans (k2 j v hv)⟩
 ·obtain⟨U,hU',_⟩:=hU.other (w':=w') (fun i T k els op L hi hL=>by
   obtain⟨M,k1,k2,k3⟩:=h.nds i _ hi;rw[hL] at k1;cases k1
   exact k2.ul_nil.imp id (fun hp=>hn i _ L hi hL hp)) hs hsame hz
  exact⟨U,hU'⟩
theorem Mem.know (h:Mem E o n th z w)(L:NLoc)(nd:Nd)(hb:L.ph=false→L.b<w.heap.size∧(∀t,¬z t L.b)∧(E.own L.b∨E.w0.heap.size≤L.b))(hne: ∀i nd M,lk o i=some nd→th[i]?=some M→M.ph=false→L.ph=false→M.b≠L.b)(hn:NdAt w z (th++[L]) L nd)(hU:L.ph=true∨FreeB E o th z w L.b)(hu: ∀T k els op,nd= .ul T k els op→UlAt w z (th++[L]) (fun _=>False) L els op:=by intro _ _ _ _ h;cases h):Mem E ((n,nd)::o) (n+1) (th++[L]) z w:=by
 have l:Le w z w z:=Le.refl _ _
 have hget:(th++[L])[n]?=some L:=by rw[←h.len];simp
 refine⟨by simp[h.len],fun i y hi=>?_,fun i j x y M M' hi hj hM hM' hp hp' hbb=>?_,h.zlt,h.grow,h.frame,h.zin,h.zout,h.zb,h.globs,fun i L hi=>BB _ (h.pre i L hi),h.sys,?_⟩
 ·simp only[lk] at hi
  by_cases he:n=i
  ·subst he
   rw[if_pos rfl] at hi;cases hi;exact⟨L,hget,hn,hb⟩
  ·rw[if_neg he] at hi
   obtain⟨M,h1,h2,h3⟩:=h.nds i y hi;exact⟨M,BB _ h1,h2.on l (fun _=>rfl) [L],h3⟩
 ·have old: ∀i x M,lk ((n,nd)::o) i=some x→(th++[L])[i]?=some M→M.ph=false→(i=n∧M=L)∨(∃x,lk o i=some x∧th[i]?=some M∧(L.ph=false→M.b≠L.b)):=by
   intro i x M hi hM hp;simp only[lk] at hi
   by_cases he:n=i
   ·subst he;rw[hget] at hM;cases hM;exact .inl ⟨rfl,rfl⟩
   ·rw[if_neg he] at hi
    obtain⟨M',h1,_,h3⟩:=h.nds i x hi;have:=BB [L] h1;rw[this] at hM;cases hM;exact .inr ⟨x,hi,h1,hne i x _ hi h1 hp⟩
  rcases old i x M hi hM hp with ⟨rfl,rfl⟩ |⟨x1,a1,b1,c1⟩<;>rcases old j y M' hj hM' hp' with ⟨rfl,rfl⟩ |⟨x2,a2,b2,c2⟩
  ·rfl
  ·exact(c2 hp hbb.symm).elim
  ·exact(c1 hp' hbb).elim
  ·exact h.inj i j x1 x2 M M' a1 a2 b1 b2 hp hp' hbb
 ·have hU': ∃U,UlOK U E o th z w∧(L.ph=false→ ∀i,¬U i L.b):=by
   rcases hU with hU |⟨U,h1,h2⟩
   ·obtain⟨U,h1⟩:=h.uls;exact⟨U,h1,fun hp=>by rw[hU] at hp;cases hp⟩
   ·exact⟨U,h1,fun _=>h2⟩
  obtain⟨U,hU,hf⟩:=hU';refine⟨fun i b=>i≠n∧U i b,fun i T k els op M hi hM=>?_,fun i b hb=>hU.lt i b hb.2,fun i b hb=>hU.nz i b hb.2,fun i b hb=>hU.ow i b hb.2,fun i j b hb hc=>hU.inj i j b hb.2 hc.2,fun i nd' M j hi hM hp hb=>?_⟩
  ·simp only[lk] at hi
   by_cases he:n=i
   ·subst he
    rw[if_pos rfl] at hi;cases hi;rw[hget] at hM;cases hM;obtain⟨F,h1,h2,h3⟩:=hu T k els op rfl;exact⟨F,fun i j b hb=>(h1 i j b hb).elim,h2,h3⟩
   ·rw[if_neg he] at hi
    obtain⟨M',k1,k2,k3⟩:=h.nds i _ hi;have:=BB [L] k1;rw[this] at hM;cases hM;obtain⟨F,h1,h2,h3⟩:=(hU.at_ i T k els op M hi k1).on l (fun _ _=>rfl) (.inr rfl) [L];exact⟨F,fun i' j b hb=>⟨Ne.symm he,h1 i' j b hb⟩,h2,h3⟩
  ·simp only[lk] at hi
   by_cases he:n=i
   ·subst he
    rw[hget] at hM;cases hM;exact hf hp j hb.2
   ·rw[if_neg he] at hi
    obtain⟨M',k1,k2,k3⟩:=h.nds i _ hi;have:=BB [L] k1;rw[this] at hM;cases hM;exact hU.kn i _ _ j hi k1 hp hb.2
theorem Sim.know (h:Sim E N st th z a w)(L:NLoc)(nd:Nd)(hb:L.ph=false→L.b<w.heap.size∧(∀t,¬z t L.b)∧(E.own L.b∨E.w0.heap.size≤L.b))(hne: ∀i nd M,lk st.o i=some nd→th[i]?=some M→M.ph=false→L.ph=false→M.b≠L.b)(hn:NdAt w z (th++[L]) L nd)(hU:L.ph=true∨FreeB E st.o th z w L.b)(hu: ∀T k els op,nd= .ul T k els op→UlAt w z (th++[L]) (fun _=>False) L els op:=by intro _ _ _ _ h;cases h):
  Sim E N (C2 st nd) (th++[L]) z a w:=
 ⟨h.mem.know L nd hb hne hn hU hu,h.size,h.dfs,fun i x hi=>let ⟨y,hy,hr⟩:=h.slots i x hi;⟨y,hy,hr.on (Le.refl _ _) [L]⟩⟩
theorem Sim.other (h:Sim E N st th z a w){w':World}{b:Nat}(hy:Sys w w')(hs:w'.heap.size=w.heap.size)(hsame: ∀b',b'≠b→w'.heap[b']?=w.heap[b']?)(hz: ∀t,¬z t b)(hn: ∀i nd L,lk st.o i=some nd→th[i]?=some L→L.ph=false→L.b≠b)(hb:E.own b∨E.w0.heap.size≤b)(hU:FreeB E st.o th z w b):Sim E N st th z a w':=
 ⟨h.mem.other hy hs hsame hz hn hb hU,h.size,h.dfs,fun i x hi=>let ⟨y,hy,hr⟩:=h.slots i x hi;⟨y,hy,hr.on' ⟨fun _ _ h=>h,fun t b' hb'=>hsame b' (fun e=>by subst e;exact hz t hb')⟩⟩⟩
theorem E9 (h:Sim E N st th z a w){T:TypeId}{y:TY}(hT:AT P T=some y){x:AV}{v:Value}(hr:Rep w z th x v){k:Nat}(hk:0<k){new:List (List AV)}(hq:Iv st k y.k x=some new):
  ∃news:List Value,Src P k T v new.length news w∧(∀e ∈ new,e.length=k)∧ ∀(i:Nat)(e:List AV)(j:Nat)(x:AV),new[i]?=some e→e[j]?=some x→ ∃y,news[i * k+j]?=some y∧Rep w z [] x y∧y.oneCell'=true:=by
 unfold Iv at hq;split at hq
 ·rename_i e' hk'
  obtain⟨ad,c,rfl,hc,hcell⟩:=F_ h hr hq
  by_cases hne:new=[]
  ·subst hne
   refine⟨[],?_,by simp,fun i e j x he=>by simp at he⟩
   cases ad with
   |none=>exact Src.ofNil w (Aw hT hk') c
   |some ad=>exact Src.ofSlice w (Aw hT hk') ad 0 c [] (by simp) (fun j u hu=>by simp at hu) (by simp)
  ·rcases hcell with h0 |⟨b,o,rfl,hlt,_,hcell⟩
   ·exact(hne h0).elim
   ·have hall: ∀q,q<new.length * k→ ∃u,w.cell? ⟨b,o+q,none⟩=some u∧u.oneCell'=true:=by
     intro q hq;have hi:q / k<new.length:=Nat.div_lt_of_lt_mul (by rw[Nat.mul_comm];exact hq);obtain⟨h1,h2⟩:=hcell (q / k) new[q / k] (by simp[hi])
     have hj:q % k<new[q / k].length:=by rw[h1];exact Nat.mod_lt _ hk
     obtain⟨u,hu,_,h3⟩:=h2 (q % k) new[q / k][q % k] (by simp[hj]);refine⟨u,?_,h3⟩;rw[show o+q / k * k+q % k=o+q by rw[Nat.add_assoc,Nat.mul_comm,Nat.div_add_mod]] at hu;exact hu
    refine⟨(List.range (new.length * k)).map fun q=>(w.cell? ⟨b,o+q,none⟩).getD undef,?_,fun e he=>?_,fun i e j x he hx=>?_⟩
    ·refine Src.ofSlice w (Aw hT hk') _ _ c _ (by simp) (fun j u hu=>?_) (fun u hu=>?_)
     ·have hj:j<new.length * k:=by have:=(List.getElem?_eq_some_iff.1 hu).1;simpa using this
      obtain⟨u',h1,_⟩:=hall j hj;simp only[List.getElem?_map,List.getElem?_range hj,Option.map_some,Option.some.injEq,h1,Option.getD_some] at hu;subst hu;rw[Ce];exact h1
     ·obtain⟨q,hq,rfl⟩:=List.mem_map.1 hu
      obtain⟨u',h1,h2⟩:=hall q (by simpa using hq);simp[h1,h2]
    ·obtain⟨i,hi⟩:=List.mem_iff_getElem?.1 he
     exact(hcell i e hi).1
    ·obtain⟨h1,h2⟩:=hcell i e he
     obtain⟨u,hu,hr',h3⟩:=h2 j x hx;refine⟨u,?_,hr',h3⟩;have hi:i<new.length:=(List.getElem?_eq_some_iff.1 he).1
     have hj:j<k:=by rw[←h1];exact(List.getElem?_eq_some_iff.1 hx).1
     have:(i+1) * k≤new.length * k:=Nat.mul_le_mul_right _ hi;rw[Nat.add_mul] at this;rw[List.getElem?_map,List.getElem?_range (by omega)];simp[←Nat.add_assoc,hu]
 ·rename_i hk'
  split at hq
  ·rename_i s
   split at hq
   ·rename_i hk1;subst hk1;cases hq
    obtain rfl:=hr.r_inv
    have hl:(s.data.toList.map I_).length=s.size:=by rw[List.length_map,Array.length_toList];rfl
    refine⟨byteCells s,by rw[hl];exact Src.ofString w (Dv hT hk') s,fun e he=>?_,fun i e j x he hx=>?_⟩
    ·obtain⟨b,_,rfl⟩:=List.mem_map.1 he;rfl
    ·rw[List.getElem?_map,Option.map_eq_some_iff] at he
     obtain⟨u,hu,rfl⟩:=he
     cases j with
     |succ j=>simp[I_] at hx
     |zero=>
      simp[I_] at hx;subst hx;refine⟨.int .u8 u.toNat,?_,.r _ _,rfl⟩;simp[byteCells,hu]
   ·cases hq
  ·cases hq
 ·cases hq
theorem D3 (w:World)(x:Obj):Ext w (w.drew.alloc x):=⟨by show w.heap.size≤(w.heap.push x).size;simp,fun b hb=>by show(w.heap.push x)[b]?=_;simp[Array.getElem?_push,show b≠w.heap.size by omega],⟨rfl,rfl,rfl⟩⟩
theorem Oh (w:World)(x:Obj):(w.drew.alloc x).heap[w.heap.size]?=some x:=by show(w.heap.push x)[w.heap.size]?=_;simp
theorem EF (w:World)(need old:Nat)(e:TypeId):need≤grownCap w need old e:=by unfold grownCap Question.cut;exact Nat.le_add_right _ _
theorem DB (z:Array Value)(n:Nat):(Builtin.zeroCells z n).size=n * z.size:=by simp[Builtin.zeroCells]
theorem Gc (h:Sim E N st th z a w){e:Nat}{k:Nat}{olds news:List Value}{els0 new:List (List AV)}{cap:Nat}(zc:Array Value)(hz:zc.size=k)(hcap:els0.length+new.length≤cap)
  (h0: ∀(i:Nat)(e:List AV),els0[i]?=some e→e.length=k∧ ∀(j:Nat)(x:AV),e[j]?=some x→ ∃y,olds[i * k+j]?=some y∧Rep w z [] x y∧y.oneCell'=true) (hl0:olds.length=els0.length * k) (hl1:news.length=new.length * k)
  (h1: ∀e ∈ new,e.length=k) (h2: ∀(i:Nat)(e:List AV)(j:Nat)(x:AV),new[i]?=some e→e[j]?=some x→ ∃y,news[i * k+j]?=some y∧Rep w z [] x y∧y.oneCell'=true):
  Sim E N (C2 st (.lst e k (els0++new))) (th++[⟨w.heap.size,0,k,cap,false⟩]) z a (w.drew.alloc (.cells ((olds++news).toArray++Builtin.zeroCells zc (cap - (els0.length+new.length))) e)):=by
 have ex:=D3 w (.cells ((olds++news).toArray++Builtin.zeroCells zc (cap - (els0.length+new.length))) e);have le:Le w z _ z:=ex.le (fun _ _ h=>h) h.mem.zlt;refine h.add ex ⟨w.heap.size,0,k,cap,false⟩ _ (Nat.le_refl _) (by show w.heap.size<(w.heap.push _).size;simp) (.inr ⟨rfl,_,(0,0),Oh _ _,fun i _=>by simp,rfl,?_,by simpa using hcap,fun i el he=>?_⟩)
 ·simp only[Nat.zero_add,Array.size_append,List.size_toArray,List.length_append,hl0,hl1,DB,hz]
  rw[←Nat.add_mul,←Nat.add_mul];exact Nat.mul_le_mul_right _ (by omega)
 ·rw[List.getElem?_append] at he
  have key:el.length=k∧ ∀(j:Nat)(x:AV),el[j]?=some x→ ∃y,(olds++news)[i * k+j]?=some y∧Rep w z [] x y∧y.oneCell'=true:=by
   split at he
   ·rename_i hi
    obtain⟨g1,g2⟩:=h0 i el he;refine⟨g1,fun j x hj=>?_⟩;obtain⟨y,hy,hr⟩:=g2 j x hj;exact⟨y,by rw[List.getElem?_append_left (List.getElem?_eq_some_iff.1 hy).1];exact hy,hr⟩
   ·rename_i hi
    refine⟨h1 el (List.mem_of_getElem? he),fun j x hj=>?_⟩;obtain⟨y,hy,hr⟩:=h2 _ el j x he hj;refine⟨y,?_,hr⟩;have:els0.length * k≤i * k:=Nat.mul_le_mul_right _ (by omega);rw[List.getElem?_append_right (by rw[hl0];omega),hl0,show i * k+j - els0.length * k=(i - els0.length) * k+j by rw[Nat.sub_mul];omega];exact hy
  obtain⟨g1,g2⟩:=key;refine⟨g1,fun j x hj=>?_⟩;obtain⟨y,hy,hr,ho⟩:=g2 j x hj;refine⟨y,?_,hr.on' le,ho⟩;simp only[Nat.zero_add];rw[Array.getElem?_append_left (by simpa using(List.getElem?_eq_some_iff.1 hy).1)];simpa using hy
theorem Ku (h:Sim E N st th z a w){T T' e t:TypeId}{i:TypeInfo}{v0 v2:Value}{sz bytes:Nat}{new:List (List AV)}{news:List Value}(hu:P.underlying T=some (.slice e))(hi1:P.info? e=some i)(hv0:i.zero=some v0)(hsz:i.size=sz)(hby':i.bytes=bytes)(hz0:v0.cells.size=sz)
  (hby:new.length * bytes≤140737488355328) (h63:new.length≤9223372036854775807) (hs:Src P sz T' v2 new.length news w) (hel: ∀e ∈ new,e.length=sz)
  (hcell: ∀(i:Nat)(e:List AV)(j:Nat)(x:AV),new[i]?=some e→e[j]?=some x→ ∃y,news[i * sz+j]?=some y∧Rep w z [] x y∧y.oneCell'=true):
  ∃v L w',(Builtin.append_ #[T,T'] t #[.slice none 0 0,v2]).run P w= .ok v w'∧Sim E N (C2 st (.lst e sz new)) (th++[L]) z a w'∧Rep w' z (th++[L]) (.s st.n 0 new.length) v∧Ext w w'∧(L.ph=false→w.heap.size≤L.b):=by
 by_cases hn:new=[]
 ·subst hn
  have hnl:news=[]:=by have:=hs.newsLen;simpa using this
  subst hnl;exact⟨.slice none 0 0,_,w,run_append_nothing w T T' t e i hu hi1 none 0 0 (Nat.le_refl _) v2 (by rw[hsz];exact hs),h.know ⟨0,0,0,0,true⟩ _ (fun hp=>by cases hp) (fun _ _ _ _ _ _ hp=>by cases hp) (.inl ⟨rfl,rfl⟩) (.inl rfl),.sn _ _ 0 ⟨0,0,0,0,true⟩ (h.get_new _) rfl,Ext.refl w,fun hp=>by cases hp⟩
 ·have hpos:0<new.length:=List.length_pos_iff.2 hn
  have hrun:=run_append_grow_src w T T' t e i v0 hu hi1 hv0 none 0 0 [] (run_firstCells_none _ _ _ _ _) v2 new.length news (by rw[hsz];exact hs) (by omega) (by omega) (by rw[hby'];exact growslice_fits (by omega) (by simpa using hby));have hS:=Gc h (e:=e) (k:=sz) (olds:=[]) (news:=news) (els0:=[]) (new:=new) (cap:=grownCap w (0+new.length) 0 e) v0.cells hz0 (by simpa using EF w (0+new.length) 0 e) (fun i e he=>by simp at he) (by simp) hs.newsLen hel hcell;simp only[List.nil_append,List.length_nil,Nat.zero_add] at hS hrun;have:=EF w new.length 0 e;exact⟨_,_,_,hrun,hS,.s _ _ 0 _ _ 0 ⟨w.heap.size,0,sz,grownCap w new.length 0 e,false⟩ (h.get_new _) rfl this (by simp) (fun _=>by simp),D3 _ _,fun _=>Nat.le_refl _⟩
set_option maxRecDepth 10000 in
theorem GU {T T' e t:TypeId}{i:TypeInfo}{v0:Value}{kd:IntKind}(hu:P.underlying T=some (.slice e))(hk:P.underlying T'=some (.int kd))(hi:P.info? e=some i)(hz:i.zero=some v0)(n:Nat)(hpos:0<n)(hs:0<i.size)(h63:(n:Int)≤9223372036854775807)(hb:n * i.bytes≤140737488355328):
  (Builtin.append_ #[T,T'] t #[.slice none 0 0,.int .i64 n]).run P w= .ok (.slice (some ⟨w.heap.size,0,none⟩) n (grownCap w n 0 e)) (w.drew.alloc (.cells (Builtin.zeroCells v0.cells n++Builtin.zeroCells v0.cells (grownCap w n 0 e - n)) e)):=by
 have hw:IntKind.i64.wrap (n:Int)=n:=Go.IntWalk.i64_in n ⟨by omega,h63⟩
 have h0: ¬((n:Int)<0):=by omega
 have h1: ¬(281474976710656<(n:Int) * (i.bytes:Int)):=by
  have:(n:Int) * (i.bytes:Int)=((n * i.bytes:Nat):Int):=by simp
  rw[this];omega
 have h2: ¬n=0:=by omega
 have h3: ¬(n * i.size=0):=by
  intro h;rcases Nat.mul_eq_zero.1 h with h |h<;>omega
 have h4: ¬(9223372036854775807<(n:Int)):=by omega
 have h5: ¬(281474976710656<Builtin.nextslicecap n 0 * i.bytes):=by
  have:=growslice_fits (need:=n) (old:=0) hpos hb;omega
 simp[Builtin.append_,AE hu,AE hk,sizeOf,typeInfo,zeroValue,hi,hz,asInt,asIntOf,hw,h0,h1,h2,h3,h4,h5,Question.forced,newRow,grownCap,Builtin.firstCells]
theorem HF (h:Sim E N st th z a w){T T' e t:TypeId}{y0:Nat}{y1:Nat}{y2:Option (List Value)}(hT:AT P T=some ⟨.slice e,y0,y1,y2⟩){i:TypeInfo}{v0 v1 v2:Value}{sz bytes n lo len:Nat}{els new:List (List AV)}{news:List Value}(hi1:P.info? e=some i)(hv0:i.zero=some v0)(hsize:i.size=sz)(hiby:i.bytes=bytes)(hz0:v0.cells.size=sz)(hsz:0<sz)
  (ho:lk st.o n=some (.lst e sz els)) (hle:lo+len≤els.length) (hby:(len+new.length) * bytes≤140737488355328) (h63:len+new.length≤9223372036854775807) (hr1:Rep w z th (.s n lo len) v1) (hs:Src P sz T' v2 new.length news w) (hel: ∀e ∈ new,e.length=sz)
  (hcell: ∀(i:Nat)(e:List AV)(j:Nat)(x:AV),new[i]?=some e→e[j]?=some x→ ∃y,news[i * sz+j]?=some y∧Rep w z [] x y∧y.oneCell'=true):
  ∃v L w',(Builtin.append_ #[T,T'] t #[v1,v2]).run P w= .ok v w'∧Sim E N (C2 {st with o:=rm st.o n} (.lst e sz ((els.drop lo).take len++new))) (th++[L]) z a w'∧Rep w' z (th++[L]) (.s st.n 0 (len+new.length)) v∧ExtT th [n] w w'∧(L.ph=false→w.heap.size≤L.b∨ ∃M,th[n]?=some M∧M.ph=false∧L.b=M.b):=by
 have hu:=Aw hT rfl
 have hl0:((els.drop lo).take len).length=len:=by simp;omega
 have hsrc0:Iv st sz (TK.slice e) (.s n lo len)=some ((els.drop lo).take len):=by
  simp only[Iv,Ci,ho];rw[if_pos ⟨trivial,hle⟩]
 obtain⟨olds,hs0,hel0,hcell0⟩:=E9 h hT hr1 hsz hsrc0;obtain⟨L,hL,hcase⟩:=hr1.s_inv;rw[hl0] at hs0;obtain⟨L',q1,hnd,g8⟩:=h.mem.nds _ _ ho;rw[hL] at q1;cases q1
 have hsub:Sim E N {st with o:=rm st.o n} th z a w:=h.sub rfl (fun i x hi=>by
  rw[H3] at hi;split at hi
  ·cases hi
  ·exact hi) (fun _ _ h=>h)
 rcases hcase with ⟨hph,hl,rfl⟩ |⟨hph,c,o,hv1,hlc,hcap,hox⟩
 ·subst hl
  obtain⟨v,L2,w',q1,q2,q3,q4,q5⟩:=Ku hsub (t:=t) hu hi1 hv0 hsize hiby hz0 (by simpa using hby) (by simpa using h63) hs hel hcell;refine⟨v,L2,w',q1,?_,?_,q4.t,fun hp=> .inl (q5 hp)⟩
  ·simpa using q2
  ·simpa using q3
 subst hv1
 rcases hnd with ⟨hp',_⟩ |⟨_,cells,fr,g2,g3,g4,g5,g6,g7⟩
 ·rw[hph] at hp';cases hp'
 obtain⟨g8,g9,g10⟩:=g8 hph
 have hne: ∀i nd M,lk (rm st.o n) i=some nd→th[i]?=some M→M.ph=false→M.b≠L.b:=by
  intro i nd M hi hM hp hb;rw[H3] at hi;split at hi
  ·cases hi
  ·rename_i hni;exact hni (h.mem.inj n i _ _ L M ho hi hL hM hph hp hb.symm)
 have hfree:FreeB E (rm st.o n) th z w L.b:=h.mem.freeB ho hL hph (fun i x hi=>by
  rw[H3] at hi;split at hi
  ·cases hi
  ·exact hi)
 by_cases hroom:len+new.length≤c
 ·by_cases hc0:c=0
  ·have hl:len=0:=by omega
   have hnn:new=[]:=List.length_eq_zero_iff.1 (by omega);subst hnn
   have hnl:news=[]:=by have:=hs.newsLen;simpa using this
   subst hnl;refine⟨.slice (some ⟨L.b,o,none⟩) len c,_,w,run_append_nothing w T T' t e i hu hi1 _ len c hlc v2 (by rw[hsize];exact hs),hsub.know ⟨L.b,0,sz,0,false⟩ _ (fun _=>⟨g8,g9,g10⟩) (fun i nd M hi hM hp _=>hne i nd M hi hM hp) ?_ (.inr hfree),?_,(Ext.refl w).t,fun _=> .inr ⟨L,hL,hph,rfl⟩⟩
   ·subst hl
    exact .inr ⟨rfl,cells,fr,g2,g3,rfl,by simp,by simp,fun i e he=>by simp at he⟩
   ·exact .s _ _ 0 _ _ o ⟨L.b,0,sz,0,false⟩ (hsub.get_new _) rfl (by simp;omega) (by simp;omega) (fun hh=>by omega)
  ·have ho':=hox (by omega)
   subst ho'
   have hbound:L.o+lo * L.k+c * L.k≤cells.size:=by
    have:(lo+c) * L.k≤L.cap * L.k:=Nat.mul_le_mul_right _ hcap;rw[Nat.add_mul] at this;omega
   have hk2:L.k=sz:=g4;have hnl:news.length=new.length * sz:=hs.newsLen
   have hin:L.o+lo * L.k+len * sz+news.length≤cells.size:=by
    have:(len+new.length) * sz≤c * sz:=Nat.mul_le_mul_right _ hroom;rw[Nat.add_mul] at this;rw[hk2] at hbound ⊢;omega
   have hrun:=run_append_room_src w T T' t e i hu hi1 L.b (L.o+lo * L.k) len c v2 new.length news (by rw[hsize];exact hs) hroom (fun j hj=>by
    rw[CB g2,hsize];simp[show L.o+lo * L.k+len * sz+j<cells.size by omega]) (fun j hj=>by
    rw[hsize];exact Gd g2 g3 (by omega))
   rw[hsize] at hrun;obtain⟨q1,q2,q3⟩:=CW L.b news (L.o+lo * L.k+len * sz) w cells e fr g2;have le:Le w z (w.setCells L.b (L.o+lo * L.k+len * sz) news) z:=⟨fun _ _ h=>h,fun t b hb=>q2 b (fun e=>by subst e;exact g9 t hb)⟩;have hoth:=hsub.other (BZ _ _ _ _) q1 q2 g9 hne g10 hfree
   have hfree2:=hfree.other (fun i T k els op M hi hM=>by
    obtain⟨M',k1,k2,_⟩:=hsub.mem.nds i _ hi;rw[hM] at k1;cases k1
    exact k2.ul_nil.imp id (fun hp=>hne i _ M hi hM hp)) q1 q2 g9
   refine⟨_,_,_,hrun,hoth.know ⟨L.b,L.o+lo * L.k,sz,c,false⟩ _ (fun _=>⟨by rw[q1];exact g8,g9,g10⟩) (fun i nd M hi hM hp _=>hne i nd M hi hM hp) ?_ (.inr hfree2),?_,⟨Nat.le_of_eq q1.symm,fun b _ hne=>q2 b (fun e=>hne n (by simp) L hL hph e.symm),BZ _ _ _ _⟩,fun _=> .inr ⟨L,hL,hph,rfl⟩⟩
   ·refine .inr ⟨rfl,_,fr,q3,fun i hi=>by rw[Bh] at hi;exact g3 i hi,rfl,by rw[Bh];show L.o+lo * L.k+c * sz≤cells.size;rw[←hk2];exact hbound,by rw[List.length_append,hl0];exact hroom,fun i el hi=>?_⟩
    rw[List.getElem?_append,hl0] at hi;simp only
    have hidx: ∀j,(DJ cells (L.o+lo * L.k+len * sz) news)[L.o+lo * L.k+i * sz+j]?=if len≤i∧(i - len) * sz+j<news.length then news[(i - len) * sz+j]? else if len≤i then cells[L.o+lo * L.k+i * sz+j]? else (DJ cells (L.o+lo * L.k+len * sz) news)[L.o+lo * L.k+i * sz+j]?:=by
     intro j;split
     ·rename_i hh
      have:len * sz≤i * sz:=Nat.mul_le_mul_right _ hh.1;have e1:(i - len) * sz=i * sz - len * sz:=Nat.sub_mul _ _ _;rw[C7 _ _ _ hin,if_pos (by omega)]
      congr 1;omega
     ·split
      ·rename_i hh h2
       have:len * sz≤i * sz:=Nat.mul_le_mul_right _ h2;have e1:(i - len) * sz=i * sz - len * sz:=Nat.sub_mul _ _ _;rw[C7 _ _ _ hin,if_neg (by omega)]
      ·rfl
    split at hi
    ·rename_i hlt
     rw[List.getElem?_take_of_lt hlt,List.getElem?_drop] at hi;obtain⟨p1,p2⟩:=g7 _ _ hi;refine⟨p1.trans hk2,fun j x hj=>?_⟩;obtain⟨u,hu,hru,h1u⟩:=p2 j x hj
     have hjk:j<sz:=by rw[←hk2,←p1];exact(List.getElem?_eq_some_iff.1 hj).1
     refine⟨u,?_,hru.on' le,h1u⟩;have:(i+1) * sz≤len * sz:=Nat.mul_le_mul_right _ hlt;rw[Nat.add_mul] at this;rw[C7 _ _ _ hin,if_neg (by omega),show L.o+lo * L.k+i * sz+j=L.o+(lo+i) * L.k+j by rw[Nat.add_mul,hk2];omega];exact hu
    ·rename_i hge
     refine⟨hel el (List.mem_of_getElem? hi),fun j x hj=>?_⟩;obtain⟨u,hu,hru,h1u⟩:=hcell _ el j x hi hj;refine⟨u,?_,hru.on' le,h1u⟩;rw[hidx,if_pos ⟨by omega,(List.getElem?_eq_some_iff.1 hu).1⟩];exact hu
   ·exact .s _ _ 0 _ _ _ ⟨L.b,L.o+lo * L.k,sz,c,false⟩ (hoth.get_new _) rfl hroom (by simp) (fun _=>by simp)
 ·have hrun:=run_append_grow_src w T T' t e i v0 hu hi1 hv0 (some ⟨L.b,o,none⟩) len c olds (by rw[hsize];exact hs0.cellsD) v2 new.length news (by rw[hsize];exact hs) (by omega) (by omega) (by rw[hiby];exact growslice_fits (by omega) hby)
  have hS:=Gc hsub (e:=e) (k:=sz) (olds:=olds) (news:=news) (els0:=(els.drop lo).take len) (new:=new) (cap:=grownCap w (len+new.length) c e) v0.cells hz0 (by rw[hl0];exact EF w _ _ _) (fun i el he=>⟨hel0 el (List.mem_of_getElem? he),fun j x hj=>hcell0 i el j x he hj⟩) (by rw[hl0];exact hs0.newsLen) hs.newsLen hel hcell;rw[hl0] at hS;refine⟨_,_,_,hrun,hS,?_,(D3 _ _).t,fun _=> .inl (Nat.le_refl _)⟩;exact .s _ _ 0 _ _ 0 _ (hsub.get_new _) rfl (EF w _ _ _) (by simp) (fun _=>by simp)
theorem ML (h:Sim E N st th z a w){args:Array Operand}{ats:Array TypeId}{d:Option Nat}{t:TypeId}{pos:String}{aft:Array Edge}{g:Option (Nat×Bool)}{k:AV→AS→Prop}(hk:LZ P E.G st (.call {callee:= .builtin .append,args:=args,argTypes:=ats}) k):
  JZ P E N ⟨d,.call {callee:= .builtin .append,args:=args,argTypes:=ats},t,pos,aft,g⟩ a w th (EN st E.G (.call {callee:= .builtin .append,args:=args,argTypes:=ats})) st.m k false:=by
 obtain⟨args⟩:=args;obtain⟨ats⟩:=ats;simp only[LZ] at hk
 cases hzz:GM P E.G st ⟨args⟩ ⟨ats⟩ with
 |some r=>
  obtain⟨c,v,s⟩:=r;simp only[hzz] at hk;unfold GM at hzz;split at hzz
  ·rename_i T T' ha
   simp only at ha;subst ha;split at hzz
   ·rename_i kd s2 b2 z2 hT'
    split at hzz
    ·rename_i e s1 b1 z1 n hT he
     split at hzz
     ·rename_i kk sz bytes zs hTe
      simp only[Option.some.injEq,Prod.mk.injEq] at hzz;obtain⟨rfl,rfl,rfl⟩:=hzz;obtain⟨⟨hpos,h63,hb,hsz,hzl,hz1⟩,hk⟩:=hk;obtain⟨i,dd,hi1,hi2,hi3⟩:=BL hTe;simp only[TY.mk.injEq] at hi3;obtain⟨_,hisz,hiby,hiz⟩:=hi3;obtain⟨v0,hv0,hv0'⟩:=Option.map_eq_some_iff.1 hiz.symm;obtain⟨v1,r1,hargs,hr1,hrest⟩:=(Bs h he).head;obtain⟨v2,r2,rfl,hr2,hrest2⟩:=hrest.head;obtain rfl:=hrest2.of_nil;obtain rfl:=hr1.r_inv;obtain rfl:=hr2.r_inv
      have hz0:v0.cells.size=sz:=by rw[←hzl,←hv0'];simp
      have hnn:(n.toNat:Int)=n:=by omega
      have hrun:=GU (w:=w) (t:=t) (Aw hT rfl) (D_ hT' rfl) hi1 hv0 n.toNat (by omega) (by omega) (by omega) (by
       have h1:((n.toNat * bytes:Nat):Int)≤140737488355328:=by rw[Int.natCast_mul,hnn];exact hb
       rw[←hiby];omega)
      rw[hnn] at hrun
      have hlen:(Builtin.zeroCells v0.cells n.toNat).toList.length=n.toNat * sz:=by rw[Array.length_toList,DB,hz0]
      have hcell: ∀(i:Nat)(e:List AV),(List.replicate n.toNat (zs.map AV.r))[i]?=some e→e.length=sz∧ ∀(j:Nat)(x:AV),e[j]?=some x→ ∃y,(Builtin.zeroCells v0.cells n.toNat).toList[i * sz+j]?=some y∧Rep w z [] x y∧y.oneCell'=true:=by
       intro i el he
       have hi:i<n.toNat:=by have:=(List.getElem?_eq_some_iff.1 he).1;simpa using this
       rw[List.getElem?_replicate,if_pos hi] at he;cases he;refine⟨by simpa using hzl,fun j x hj=>?_⟩;simp only[List.getElem?_map,Option.map_eq_some_iff] at hj;obtain⟨u,hu,rfl⟩:=hj
       have hj:j<sz:=by rw[←hzl];exact(List.getElem?_eq_some_iff.1 hu).1
       have hlt:i * sz+j<n.toNat * sz:=by
        have:(i+1) * sz≤n.toNat * sz:=Nat.mul_le_mul_right _ hi;rw[Nat.add_mul] at this;omega
       refine⟨u,?_,.r _ _,List.all_eq_true.1 hz1 u (List.mem_of_getElem? hu)⟩;rw[Array.getElem?_toList];unfold Builtin.zeroCells;rw[hz0,Array.getElem?_map,Array.getElem?_eq_getElem (by simpa using hlt)];simp only[Array.getElem_range,Option.map_some,Option.some.injEq];rw[show(i * sz+j) % sz=j by rw[Nat.mul_comm,Nat.mul_add_mod,Nat.mod_eq_of_lt hj]]
       have:v0.cells[j]?=some u:=by rw[←hv0'] at hu;simpa using hu
       obtain⟨hlt',hg⟩:=Array.getElem?_eq_some_iff.1 this;rw[getElem!_pos v0.cells j hlt'];exact hg
      have hS:=Gc h (e:=e) (k:=sz) (olds:=[]) (news:=(Builtin.zeroCells v0.cells n.toNat).toList) (els0:=[]) (new:=List.replicate n.toNat (zs.map AV.r)) (cap:=grownCap w n.toNat 0 e) v0.cells hz0 (by simpa using EF w n.toNat 0 e) (fun i e he=>by simp at he) (by simp) (by simpa using hlen) (fun e he=>by
       obtain⟨i,hi⟩:=List.mem_iff_getElem?.1 he
       exact(hcell i e hi).1) (fun i e j x he hx=>(hcell i e he).2 j x hx)
      simp only[List.nil_append,List.length_nil,Nat.zero_add,List.length_replicate] at hS;have hcap:=EF w n.toNat 0 e;refine⟨.slice (some ⟨w.heap.size,0,none⟩) n.toNat (grownCap w n.toNat 0 e),_,_,_,z,_,.inl ?_,hk,hS,.s _ _ 0 _ _ 0 ⟨w.heap.size,0,sz,grownCap w n.toNat 0 e,false⟩ (h.get_new _) rfl hcap (by simp) (fun _=>by simp),rfl,(fun h=>by cases h),Br _ _,(D3 _ _).t⟩;simp only[execOp,resolve,invoke,builtin,Sem.run_bind,Sem.run_pure,Result.andThen_ok]
      have he2:(Array.map a.eval args.toArray)= #[.slice none 0 0,.int .i64 n]:=by simpa using hargs
      rw[he2,hrun];rfl
     ·cases hzz
    ·cases hzz
   ·cases hzz
  ·cases hzz
 |none=>
 simp only[hzz] at hk;split at hk
 ·rename_i b x T T' he
  obtain⟨v1,r1,hargs,hr1,hrest⟩:=(Bs h he).head;obtain⟨v2,r2,rfl,hr2,hrest2⟩:=hrest.head;obtain rfl:=hrest2.of_nil
  have hexec: ∀(v:Value)(w':World),(Builtin.append_ #[T,T'] t #[v1,v2]).run P w= .ok v w'→(execOp a.eval ⟨d,.call {callee:= .builtin .append,args:=args.toArray,argTypes:= #[T,T']},t,pos,aft,g⟩).run P w= .ok (.value v) w':=by
   intro v w' hv;simp only[execOp,resolve,invoke,builtin,Sem.run_bind,Sem.run_pure,Result.andThen_ok]
   have he2:(Array.map a.eval args.toArray)= #[v1,v2]:=by simpa using hargs
   rw[he2,hv];rfl
  split at hk
  ·rename_i e s1 b1 z1 y' hT hT'
   split at hk
   ·rename_i kk sz bytes zs hTe
    obtain⟨i,dd,hi1,hi2,hi3⟩:=BL hTe;simp only[TY.mk.injEq] at hi3;obtain⟨_,hisz,hiby,hiz⟩:=hi3;obtain⟨v0,hv0,hv0'⟩:=Option.map_eq_some_iff.1 hiz.symm;have hu:=Aw hT rfl;split at hk
    ·rename_i new hnew
     split at hk
     ·obtain rfl:=hr1.r_inv
      obtain⟨⟨hzl,hsz,hby,h63⟩,hk⟩:=hk;obtain⟨news,hs,hel,hcell⟩:=E9 h hT' hr2 hsz hnew
      have hz0:v0.cells.size=sz:=by rw[←hzl,←hv0'];simp
      obtain⟨v,L,w',g1,g2,g3,g4,_⟩:=Ku h (t:=t) hu hi1 hv0 hisz.symm hiby.symm hz0 hby h63 hs hel hcell;exact⟨v,_,_,_,z,w',.inl (hexec _ _ g1),hk,g2,g3,rfl,(fun h=>by cases h),Br _ _,g4.t⟩
     ·rename_i n lo len
      have hts:EN st E.G (.call {callee:= .builtin .append,args:=args.toArray,argTypes:=[T,T'].toArray})=[n]:=by simp only[EN,he]
      split at hk
      ·rename_i T2 k' els ho
       obtain⟨⟨hT2,hzl,hkk,hsz,hle,hby,h63⟩,hk⟩:=hk;have hT2:=hT2.symm;subst hT2;subst hkk;obtain⟨news,hs,hel,hcell⟩:=E9 h hT' hr2 hsz hnew;obtain⟨v,L,w',g1,g2,g3,g4,_⟩:=HF h (t:=t) hT hi1 hv0 hisz.symm hiby.symm (by rw[←hzl,←hv0'];simp) hsz ho hle hby h63 hr1 hs hel hcell;rw[hts];exact⟨v,_,_,_,z,w',.inl (hexec _ _ g1),hk,g2,g3,rfl,(fun h=>by cases h),Br _ _,g4⟩
      ·exact hk.elim
     ·exact hk.elim
    ·exact hk.elim
   ·exact hk.elim
  ·exact hk.elim
 ·exact hk.elim
theorem Eh {v0:Value}{zs:List Value}{sz n i j:Nat}{u:Value}(hz:v0.cells.toList=zs)(hzl:zs.length=sz)(hi:i<n)(hu:zs[j]?=some u):(Builtin.zeroCells v0.cells n).toList[i * sz+j]?=some u:=by
 have hz0:v0.cells.size=sz:=by rw[←hzl,←hz];simp
 have hj:j<sz:=by rw[←hzl];exact(List.getElem?_eq_some_iff.1 hu).1
 have hlt:i * sz+j<n * sz:=by
  have:(i+1) * sz≤n * sz:=Nat.mul_le_mul_right _ hi;rw[Nat.add_mul] at this;omega
 rw[Array.getElem?_toList];unfold Builtin.zeroCells;rw[hz0,Array.getElem?_map,Array.getElem?_eq_getElem (by simpa using hlt)];simp only[Array.getElem_range,Option.map_some,Option.some.injEq];rw[show(i * sz+j) % sz=j by rw[Nat.mul_comm,Nat.mul_add_mod,Nat.mod_eq_of_lt hj]]
 have:v0.cells[j]?=some u:=by rw[←hz] at hu;simpa using hu
 obtain⟨hlt',hg⟩:=Array.getElem?_eq_some_iff.1 this;rw[getElem!_pos v0.cells j hlt'];exact hg
theorem JV (h:Sim E N st th z a w){args:Array Operand}{ats:Array TypeId}{d:Option Nat}{t:TypeId}{pos:String}{aft:Array Edge}{g:Option (Nat×Bool)}{k:AV→AS→Prop}(hk:LZ P E.G st (.call {callee:= .builtin .clear,args:=args,argTypes:=ats}) k):
  JZ P E N ⟨d,.call {callee:= .builtin .clear,args:=args,argTypes:=ats},t,pos,aft,g⟩ a w th (EN st E.G (.call {callee:= .builtin .clear,args:=args,argTypes:=ats})) st.m k false:=by
 obtain⟨args⟩:=args;obtain⟨ats⟩:=ats;simp only[LZ] at hk;split at hk
 ·rename_i x T he
  split at hk
  ·rename_i e s1 b1 z1 hT
   split at hk
   ·rename_i kk sz bytes zs n lo len hTe
    split at hk
    ·rename_i T2 k' els ho
     obtain⟨⟨hzl,hkk,hsz,hle,hz1⟩,hk⟩:=hk;subst hkk
     have hts:EN st E.G (.call {callee:= .builtin .clear,args:=args.toArray,argTypes:=[T].toArray})=[n]:=by simp only[EN,he]
     rw[hts];obtain⟨v1,r1,hargs,hr1,hrest⟩:=(Bs h he).head;obtain rfl:=hrest.of_nil
     have hexec: ∀(w':World),(Builtin.clear_ #[T] t #[v1]).run P w= .ok (.tuple #[]) w'→(execOp a.eval ⟨d,.call {callee:= .builtin .clear,args:=args.toArray,argTypes:= #[T]},t,pos,aft,g⟩).run P w= .ok (.value (.tuple #[])) w':=by
      intro w' hv;simp only[execOp,resolve,invoke,builtin,Sem.run_bind,Sem.run_pure,Result.andThen_ok]
      have he2:(Array.map a.eval args.toArray)= #[v1]:=by simpa using hargs
      rw[he2,hv];rfl
     obtain⟨i,dd,hi1,hi2,hi3⟩:=BL hTe;simp only[TY.mk.injEq] at hi3;obtain⟨_,hisz,hiby,hiz⟩:=hi3;obtain⟨v0,hv0,hv0'⟩:=Option.map_eq_some_iff.1 hiz.symm;have hu:=Aw hT rfl
     have hz0:v0.cells.size=k':=by rw[←hzl,←hv0'];simp
     have hzv:(zeroValue e).run P w= .ok v0 w:=by simp[zeroValue,CN hi1,hv0]
     obtain⟨L,k1,hnd,k6⟩:=h.mem.nds _ _ ho
     by_cases h0:len=0
     ·subst h0
      obtain⟨ao,c,rfl⟩: ∃ao c,v1= .slice ao 0 c:=by
       cases hr1 with
       |s _ _ _ _ c x M _ _ _ _ _=>exact⟨_,_,rfl⟩
       |sn=>exact⟨_,_,rfl⟩
      have hrun:(Builtin.clear_ #[T] t #[.slice ao 0 c]).run P w= .ok (.tuple #[]) w:=by
       cases ao<;>simp[Builtin.clear_,AE hu]
      refine⟨.tuple #[],.r (.tuple #[]),_,th,z,w,.inl (hexec _ hrun),hk,?_,.r _ _,rfl,(fun h=>by cases h),Later.refl _,(Ext.refl w).t⟩
      have e1:els.take lo++List.replicate 0 (zs.map AV.r)++els.drop (lo+0)=els:=by simp
      rw[e1]
      have key: ∀j y,lk (BO st n (.lst T2 k' els)).o j=some y→lk st.o j=some y:=by
       intro j y hj;simp only[BO,lk] at hj;split at hj
       ·rename_i q;subst q;cases hj;exact ho
       ·exact hj
      exact h.sub rfl key (fun _ _ h=>h)
     ·rcases hnd with ⟨_,hn0⟩ |⟨hph,cells,fr,g2,g3,g4,g5,g6,g7⟩
      ·subst hn0;simp at hle;omega
      obtain⟨k6,k7,k8⟩:=k6 hph
      obtain⟨c,x,rfl,hc1,hc2,hx⟩: ∃c x,v1= .slice (some ⟨L.b,x,none⟩) len c∧len≤c∧lo+c≤L.cap∧x=L.o+lo * L.k:=by
       cases hr1 with
       |s _ _ _ _ c x M hL hp' h3 h4 h5=>
        rw[k1] at hL;cases hL;exact⟨c,x,rfl,h3,h4,h5 (by omega)⟩
       |sn _ _ _ M hL hp'=>exact absurd rfl h0
      subst hx
      have hzlen:(Builtin.zeroCells v0.cells len).toList.length=len * k':=by rw[Array.length_toList,DB,hz0]
      have hbound:L.o+lo * L.k+len * k'≤cells.size:=by
       rw[g4];have:(lo+len) * k'≤L.cap * k':=Nat.mul_le_mul_right _ (by omega);rw[Nat.add_mul] at this;rw[g4] at g5;omega
      have hone: ∀u ∈ (Builtin.zeroCells v0.cells len).toList,u.oneCell'=true:=by
       intro u hu;obtain⟨m,hm⟩:=List.mem_iff_getElem?.1 hu
       have hm':m<len * k':=by rw[←hzlen];exact(List.getElem?_eq_some_iff.1 hm).1
       have hj:m % k'<k':=Nat.mod_lt _ hsz
       have hq:zs[m % k']?=some (zs[m % k']'(by omega)):=by rw[List.getElem?_eq_getElem]
       have hdm:m / k'<len:=by rw[Nat.div_lt_iff_lt_mul hsz];exact hm'
       have:=Eh hv0' hzl (n:=len) hdm hq;rw[show m / k' * k'+m % k'=m by rw[Nat.mul_comm];exact Nat.div_add_mod m k'] at this;rw[hm] at this;cases this;exact List.all_eq_true.1 hz1 _ (List.getElem_mem _)
      have hst:=run_storeCells_cells (P:=P) L.b (L.o+lo * L.k) (Builtin.zeroCells v0.cells len).toList 0 w (fun j hj=>by
       rw[hzlen] at hj
       have hlt:L.o+lo * L.k+j<cells.size:=by omega
       rw[CB g2];simpa using hlt) (fun j hj=>by
       rw[hzlen] at hj
       exact Gd g2 g3 (by omega)) hone
      have hrun:(Builtin.clear_ #[T] t #[.slice (some ⟨L.b,L.o+lo * L.k,none⟩) len c]).run P w= .ok (.tuple #[]) (w.setCells L.b (L.o+lo * L.k) (Builtin.zeroCells v0.cells len).toList):=by
       obtain⟨m,rfl⟩: ∃m,len=m+1:=⟨len - 1,by omega⟩;simp only[Nat.add_zero] at hst;simp[Builtin.clear_,AE hu,hzv,hst]
      obtain⟨q1,q2,q3⟩:=CW L.b (Builtin.zeroCells v0.cells len).toList (L.o+lo * L.k) w cells T2 fr g2;have le:Le w z (w.setCells L.b (L.o+lo * L.k) (Builtin.zeroCells v0.cells len).toList) z:=⟨fun _ _ h=>h,fun t b hb=>q2 b (fun e=>by subst e;exact k7 t hb)⟩;refine⟨.tuple #[],.r (.tuple #[]),_,th,z,_,.inl (hexec _ hrun),hk,h.write ho k1 hph (BZ _ _ _ _) q1 q2 ?_,.r _ _,rfl,(fun h=>by cases h),Later.refl _,⟨Nat.le_of_eq q1.symm,fun b _ hne=>q2 b (fun e=>hne n (by simp) L k1 hph e.symm),BZ _ _ _ _⟩⟩
      have hlen':(els.take lo++List.replicate len (zs.map AV.r)++els.drop (lo+len)).length=els.length:=by simp;omega
      refine .inr ⟨hph,_,fr,q3,fun i hi=>by rw[Bh] at hi;exact g3 i hi,g4,by rw[Bh];exact g5,by rw[hlen'];exact g6,fun i' e' he'=>?_⟩;have hgm:=C7 (Builtin.zeroCells v0.cells len).toList (L.o+lo * L.k) cells (by rw[hzlen];exact hbound)
      by_cases hin:lo≤i'∧i'<lo+len
      ·have he2:e'=zs.map AV.r:=by
        rw[List.append_assoc,List.getElem?_append_right (by rw[List.length_take];omega),List.length_take,show min lo els.length=lo by omega,List.getElem?_append_left (by simp;omega),List.getElem?_replicate,if_pos (by omega)] at he';cases he';rfl
       subst he2;refine⟨by rw[g4];simpa using hzl,fun j x hj=>?_⟩;simp only[List.getElem?_map,Option.map_eq_some_iff] at hj;obtain⟨u,hu,rfl⟩:=hj
       have hjk:j<k':=by rw[←hzl];exact(List.getElem?_eq_some_iff.1 hu).1
       refine⟨u,?_,.r _ _,List.all_eq_true.1 hz1 u (List.mem_of_getElem? hu)⟩;have hz2:=Eh hv0' hzl (n:=len) (i:=i' - lo) (by omega) hu
       have e1:i' * k'=lo * k'+(i' - lo) * k':=by rw[←Nat.add_mul];congr 1;omega
       have e2:(i' - lo+1) * k'≤len * k':=Nat.mul_le_mul_right _ (by omega);rw[Nat.add_mul] at e2;rw[hgm,hzlen,g4,if_pos (by omega)];rw[show L.o+i' * k'+j - (L.o+lo * k')=(i' - lo) * k'+j by omega];exact hz2
      ·have he2:els[i']?=some e':=by
        by_cases hlt:i'<lo
        ·rw[List.append_assoc,List.getElem?_append_left (by rw[List.length_take];omega),List.getElem?_take_of_lt hlt] at he';exact he'
        ·rw[List.getElem?_append_right (by simp;omega),List.getElem?_drop] at he'
         rw[←he'];congr 1;simp;omega
       obtain⟨hl,hc⟩:=g7 i' e' he2;refine⟨hl,fun j x hj=>?_⟩
       have hjk:j<L.k:=by rw[←hl];exact(List.getElem?_eq_some_iff.1 hj).1
       obtain⟨u,hu,hru,h1u⟩:=hc j x hj;refine⟨u,?_,by simpa using hru.on le [],h1u⟩;rw[hgm,hzlen,if_neg]
       ·exact hu
       ·rintro⟨a1,a2⟩
        rw[g4] at a1 a2 hjk
        rcases Nat.lt_or_ge i' lo with hlt |hge
        ·have:(i'+1) * k'≤lo * k':=Nat.mul_le_mul_right _ hlt
         rw[Nat.add_mul] at this;omega
        ·have:(lo+len) * k'≤i' * k':=Nat.mul_le_mul_right _ (by omega)
         rw[Nat.add_mul] at this;omega
    ·exact hk.elim
   ·exact hk.elim
  ·exact hk.elim
 ·exact hk.elim
end
end Go.AM
namespace Go.AM
open Go
mutual
def Fl (st:AS):AV→Option (AV×AS)
 | .s n lo len=>match lk st.o n with
   |some (.lst _ k els)=>if lo+len≤els.length then some (.ro true k ((els.drop lo).take len),{st with o:=rm st.o n}) else none
   |some (.ul _ _ _ _)=>some (.s n lo len,st)
   |_=>none
 | .r v=>some (.r v,st)
 | .ro t k els=>some (.ro t k els,st)
 | .re t c off=>some (.re t c off,st)
 | .agg c=>match ID st c with
   |some (c',st')=>some (.agg c',st')
   |none=>none
 |_=>none
def ID (st:AS):List AV→Option (List AV×AS)
 | []=>some ([],st)
 |x::r=>match Fl st x with
  |none=>none
  |some (x',st1)=>match ID st1 r with
   |none=>none
   |some (r',st2)=>some (x'::r',st2)
end
def Fk:List AV→Option (List AV)
 | []=>some []
 | .r v::r=>(Fk r).map (.r v:: ·)
 | .ro t k els::r=>(Fk r).map (.ro t k els:: ·)
 | .re t c off::r=>(Fk r).map (.re t c off:: ·)
 | .s _ _ _::r=>(Fk r).map (.any:: ·)
 |_::_=>none
def Da (i:Nat):Nat→List AV→List (Nat×Nat×AV)
 |_,[]=>[]
 |j,.s n lo len::r=>(i,j,.s n lo len)::Da i (j+1) r
 |j,_::r=>Da i (j+1) r
def Qa:List (Nat×Nat×AV)→Nat→Nat→Nat→List (Nat×Nat×AV)
 | [],_,_,_=>[]
 |(a,b,x)::r,i,j,n=>if a=i∧j≤b∧b<j+n then Qa r i j n else (a,b,x)::Qa r i j n
def LM (sz:Nat):Nat→List Nat→List AV→Option (List (List AV)×List (Nat×Nat×AV))
 |_,[],[]=>some ([],[])
 |i,j::is,x::r=>if j=i∧x.cells.length=sz∧x.okPart=true∧x.cells.all AV.cell1=true then match Fk x.cells,LM sz (i+1) is r with
   |some c,some (els,op)=>some (c::els,Da i 0 x.cells++op)
   |_,_=>none
  else none
 |_,_,_=>none
def R4 (d:Nat)(op:List (Nat×Nat×AV)):List (Nat×Nat×AV):=op.map fun p=>(p.1+d,p.2)
def PK (st:AS)(e sz:Nat):AV→Option (List (List AV)×Nat)
 | .s n 0 len=>match lk st.o n with
   |some (.ul T k els [])=>if T=e∧k=sz∧len=els.length then some (els,n) else none
   |_=>none
 |_=>none
def R1 (st:AS)(sz:Nat):AV→Option (List (List AV)×List (Nat×Nat×AV)×Option Nat)
 | .s m lo len=>match lk st.o m with
   |some (.ul _ k els op)=>if lo=0∧k=sz∧len=els.length then some (els,op,some m) else none
   |_=>(Ci st sz (.s m lo len)).map fun els=>(els,[],none)
 |x=>(Ci st sz x).map fun els=>(els,[],none)
def Rz (o:List (Nat×Nd)):Option Nat→List (Nat×Nd)
 |some m=>rm o m
 |none=>o
def OV (l:List Int)(v:Int):List Int:=bif l.contains v then l else l++[v]
def RF (P:Program)(st:AS):Option TY→Option AV→Option AV→Option AV→Option (Prop×AV×AS)
 |some ⟨.map k _,_,_,_⟩,some (.q n),some (.r (.int .i64 v)),some (.agg [])=>match AT P k,lk st.o n with
  |some ⟨.int .i64,_,_,_⟩,some (.mp l)=>some (True,.r (.tuple #[]),BO st n (.mp (OV l v)))
  |_,_=>none
 |_,_,_,_=>none
def Ll (st:AS):Option TY→Option AV→Option AV→Option (Prop×AV×AS)
 |some y,some (.p n i off),some v=>match lk st.o n with
  |some (.ul T k els op)=>match els[i]?,Fk v.cells with
   |some e,some c=>some ((v.cells.length=y.size∧off+y.size≤e.length∧v.okPart=true∧v.cells.all AV.cell1=true),.r (.tuple #[]),BO st n (.ul T k (els.set i (splice e off c)) (Da i off v.cells++Qa op i off v.cells.length)))
   |_,_=>none
  |_=>none
 |_,_,_=>none
def MW (P:Program)(st:AS)(len:Nat)(is:List Nat):Option TY→Option (List AV)→Option (Prop×AV×AS)
 |some ⟨.slice e,_,_,_⟩,some c=>match AT P e,ID st c with
  |some ⟨_,sz,_,some _⟩,some (c',st')=>match LM sz 0 is c' with
   |some (els,op)=>some ((len=els.length∧len * sz≤16777216),.s st'.n 0 len,C2 st' (.ul e sz els op))
   |none=>none
  |_,_=>none
 |_,_=>none
def Rn (P:Program)(st:AS):Option (List AV)→List TypeId→Option (Prop×AV×AS)
 |some [b,x],[T,T']=>match AT P T,AT P T' with
  |some ⟨.slice e,_,_,_⟩,some ⟨.slice _,_,_,_⟩=>match AT P e with
   |some ⟨_,sz,bytes,some zs⟩=>match PK st e sz b,R1 st sz x with
    |some (els,n),some (els2,op2,ms)=>some ((zs.length=sz∧0<sz∧(els.length+els2.length) * bytes≤140737488355328∧els.length+els2.length≤9223372036854775807∧ms≠some n),.s st.n 0 (els.length+els2.length),C2 {st with o:=rm (Rz st.o ms) n} (.ul e sz (els++els2) (R4 els.length op2)))
    |_,_=>none
   |_=>none
  |_,_=>none
 |_,_=>none
def E6 (P:Program)(G:List (Nat×List Value))(st:AS):Op→Option (Prop×AV×AS)
 | .store T x v=>Ll st (AT P T) (ev st G x) (ev st G v)
 | .buildSlice T len parts=>MW P st len (parts.toList.map (·.1)) (AT P T) (Du st G (parts.toList.map (·.2)))
 | .call {callee:= .builtin .append,args,argTypes}=>Rn P st (Du st G args.toList) argTypes.toList
 | .makeMap T none=>some (True,.q st.n,C2 st (.mp []))
 | .mapUpdate T m k x=>RF P st (AT P T) (ev st G m) (ev st G k) (ev st G x)
 |_=>none
section
variable {P:Program} {E:Env} {N:Nat} {st:AS} {th:List NLoc} {z:Ag} {a:Act} {w:World} {o:List (Nat×Nd)} {n:Nat}
mutual
theorem MD: ∀(x:AV){st st':AS}{z:Ag}{v:Value}{x':AV},Sim E N st th z a w→Rep w z th x v→Fl st x=some (x',st')→
  ∃z',(∀t b,z t b→z' t b)∧Sim E N st' th z' a w∧Rep w z' th x' v∧st'.m=st.m∧st'.n=st.n
 | .s i lo len,st,st',z,v,x',h,hr,hq=>by
   simp only[Fl] at hq;split at hq
   ·rename_i T k els hi
    split at hq
    ·rename_i hle;cases hq
     obtain⟨L,h1,h2,h3⟩:=h.mem.nds i _ hi;exact⟨_,fun _ _ h=> .inl h,h.freeze hi h1,(hr.seen h1 h2 hle (fun hp=> .inr ⟨rfl,hp,rfl⟩) (fun _ _ h=> .inl h) []:Rep w _ [] _ _).pure th,rfl,rfl⟩
    ·cases hq
   ·cases hq
    exact⟨z,fun _ _ h=>h,h,hr,rfl,rfl⟩
   ·cases hq
 | .r u,st,st',z,v,x',h,hr,hq=>by
   simp only[Fl] at hq;cases hq;exact⟨z,fun _ _ h=>h,h,hr,rfl,rfl⟩
 | .ro t k els,st,st',z,v,x',h,hr,hq=>by
   simp only[Fl] at hq;cases hq;exact⟨z,fun _ _ h=>h,h,hr,rfl,rfl⟩
 | .re t c off,st,st',z,v,x',h,hr,hq=>by
   simp only[Fl] at hq;cases hq;exact⟨z,fun _ _ h=>h,h,hr,rfl,rfl⟩
 | .agg c,st,st',z,v,x',h,hr,hq=>by
   simp only[Fl] at hq;split at hq
   ·rename_i c' st1 hc;cases hq
    obtain⟨ys,rfl,hc'⟩:=hr.agg_inv;obtain⟨z',hz,hs,hr',hm,hn⟩:=F0 c h hc' hc;exact⟨z',hz,hs,.agg _ _ _ hr'.1 hr'.2,hm,hn⟩
   ·cases hq
 | .p _ _ _,_,_,_,_,_,_,_,hq=>by simp[Fl] at hq
 | .tup _,_,_,_,_,_,_,_,hq=>by simp[Fl] at hq
 | .fn _ _,_,_,_,_,_,_,_,hq=>by simp[Fl] at hq
 | .ifc _ _,_,_,_,_,_,_,_,hq=>by simp[Fl] at hq
 | .q _,_,_,_,_,_,_,_,hq=>by simp[Fl] at hq
 | .u _ _ _,_,_,_,_,_,_,_,hq=>by simp[Fl] at hq
 | .any,_,_,_,_,_,_,_,hq=>by simp[Fl] at hq
theorem F0: ∀(c:List AV){st st':AS}{z:Ag}{ys:List Value}{c':List AV},Sim E N st th z a w→Reps w z th c ys→ID st c=some (c',st')→
  ∃z',(∀t b,z t b→z' t b)∧Sim E N st' th z' a w∧Reps w z' th c' ys∧st'.m=st.m∧st'.n=st.n
 | [],st,st',z,ys,c',h,hr,hq=>by
   simp only[ID] at hq;cases hq;obtain rfl:=hr.of_nil;exact⟨z,fun _ _ h=>h,h,.nil,rfl,rfl⟩
 |x::r,st,st',z,ys,c',h,hr,hq=>by
  simp only[ID] at hq;split at hq
  ·cases hq
  ·rename_i x1 st1 hx
   split at hq
   ·cases hq
   ·rename_i r1 st2 hr1;cases hq
    obtain⟨y,ys',rfl,hy,hys⟩:=hr.head;obtain⟨z1,hz1,hs1,hr1',hm1,hn1⟩:=MD x h hy hx;obtain⟨z2,hz2,hs2,hr2',hm2,hn2⟩:=F0 r hs1 (by simpa using hys.on ⟨hz1,fun _ _ _=>rfl⟩ []) hr1;exact⟨z2,fun t b hb=>hz2 t b (hz1 t b hb),hs2,.cons (hr1'.on' ⟨hz2,fun _ _ _=>rfl⟩) hr2',hm2.trans hm1,hn2.trans hn1⟩
end
theorem Rep.gnd {x:AV}{v:Value}(hr:Rep w z th x v)(hg:(∃u,x= .r u)∨(∃t k els,x= .ro t k els)∨ ∃t c off,x= .re t c off):Rep w z [] x v:=by
 cases hr with
 |r _ v=>exact .r _ _
 |nil _ t k a c=>exact .nil _ _ _ _ _
 |ro _ t k els b o c ys hz hc hk hy h1 hx=>exact .ro _ _ _ _ b o c ys hz hc hk hy h1 hx
 |re _ t c b o off ys hz hy hx=>exact .re _ _ _ b o _ ys hz hy hx
 |_=>rcases hg with ⟨_,h⟩ |⟨_,_,_,h⟩ |⟨_,_,_,h⟩<;>cases h
theorem K8: ∀ {c c':List AV},Fk c=some c'→c'.length=c.length
 | [],c',h=>by simp only[Fk,Option.some.injEq] at h;subst h;rfl
 |x::r,c',h=>by
  cases x<;>simp only[Fk,Option.map_eq_some_iff] at h<;>first
   |(cases h;done)
   |(obtain⟨r',h1,rfl⟩:=h;simp[K8 h1])
theorem I8 {f:Nat→Prop}{i:Nat}: ∀ {c c':List AV}{ys:List Value}{j0:Nat},Fk c=some c'→Reps w z th c ys→ ∀(j:Nat)(x:AV),c'[j]?=some x→ ∃y,ys[j]?=some y∧CellU w z th f (Da i j0 c) i (j0+j) x y
 | [],c',ys,j0,h,hr,j,x,hx=>by simp only[Fk,Option.some.injEq] at h;subst h;simp at hx
 |u::r,c',ys,j0,h,hr,j,x,hx=>by
  obtain⟨y,ys',rfl,hy,hys⟩:=hr.head
  have low: ∀(r:List AV)(s k:Nat),k<s→EC (Da i s r) i k=none:=by
   intro r
   induction r with
   |nil=>intro s k _;simp[Da,EC]
   |cons u r ih=>
    intro s k hk
    cases u<;>simp only[Da,EC]<;>first
     |exact ih _ _ (by omega)
     |(rw[if_neg (by omega)];exact ih _ _ (by omega))
  have ih: ∀ {c1:List AV},Fk r=some c1→ ∀(j:Nat)(x:AV),c1[j]?=some x→ ∃y,ys'[j]?=some y∧CellU w z th f (Da i (j0+1) r) i (j0+1+j) x y:=fun h1 j x hx=>I8 h1 hys j x hx
  have gnd:((∃u',u= .r u')∨(∃t k els,u= .ro t k els)∨ ∃t c off,u= .re t c off)→(∃c1,Fk r=some c1∧c'=u::c1)→Da i j0 (u::r)=Da i (j0+1) r→ ∃y',(y::ys')[j]?=some y'∧CellU w z th f (Da i j0 (u::r)) i (j0+j) x y':=by
   rintro hg ⟨c1,h1,rfl⟩ he;rw[he]
   cases j with
   |zero=>
    simp at hx;subst hx;refine⟨y,rfl,?_⟩;unfold CellU;rw[low r (j0+1) (j0+0) (by omega)];exact .r _ _ _ (hy.gnd hg)
   |succ j=>
    obtain⟨y',h2,h3⟩:=ih h1 j x (by simpa using hx);exact⟨y',by simpa using h2,by rw[show j0+(j+1)=j0+1+j by omega];exact h3⟩
  cases u<;>simp only[Fk,Option.map_eq_some_iff] at h
  case r v=>obtain⟨c1,h1,rfl⟩:=h;exact gnd (.inl ⟨_,rfl⟩) ⟨_,h1,rfl⟩ rfl
  case ro t k els=>obtain⟨c1,h1,rfl⟩:=h;exact gnd (.inr (.inl ⟨_,_,_,rfl⟩)) ⟨_,h1,rfl⟩ rfl
  case re t c off=>obtain⟨c1,h1,rfl⟩:=h;exact gnd (.inr (.inr ⟨_,_,_,rfl⟩)) ⟨_,h1,rfl⟩ rfl
  case s n lo len=>
   obtain⟨c1,h1,rfl⟩:=h
   cases j with
   |zero=>
    refine⟨y,rfl,?_⟩;simp only[CellU,Da,EC,Nat.add_zero,and_self,if_true];exact hy
   |succ j=>
    obtain⟨y',h2,h3⟩:=ih h1 j x (by simpa using hx);refine⟨y',by simpa using h2,?_⟩;rw[show j0+(j+1)=j0+1+j by omega];unfold CellU at h3 ⊢;simp only[Da,EC];rw[if_neg (by omega)];exact h3
  all_goals cases h
theorem DF: ∀(a b:List (Nat×Nat×AV))(i j:Nat),EC (a++b) i j=match EC a i j with |some x=>some x |none=>EC b i j
 | [],b,i,j=>rfl
 |(p,q,x)::r,b,i,j=>by
  simp only[List.cons_append,EC];split
  ·rfl
  ·exact DF r b i j
theorem Ep {i:Nat}: ∀(c:List AV)(j0 i' j:Nat),i'≠i→EC (Da i j0 c) i' j=none
 | [],j0,i',j,h=>by simp[Da,EC]
 |u::r,j0,i',j,h=>by
  cases u<;>simp only[Da,EC]<;>first
   |exact Ep r _ _ _ h
   |(rw[if_neg (fun e=>h e.1.symm)];exact Ep r _ _ _ h)
theorem Fg {i:Nat}: ∀(c:List AV)(j0 j:Nat),(j<j0∨j0+c.length≤j)→EC (Da i j0 c) i j=none
 | [],j0,j,h=>by simp[Da,EC]
 |u::r,j0,j,h=>by
  simp only[List.length_cons] at h
  cases u<;>simp only[Da,EC]<;>first
   |exact Fg r _ _ (by omega)
   |(rw[if_neg (by omega)];exact Fg r _ _ (by omega))
def SI:Value→AV
 | .agg ys=> .agg (ys.toList.map .r)
 |v=> .r v
theorem QH (v:Value):Rep w z [] (SI v) v:=by
 cases v<;>first
  |exact .r _ _
  |(rename_i ys;have:=Rep.agg (w:=w) (z:=z) [] (ys.toList.map AV.r) ys.toList (by simp) (fun i x y h1 h2=>by
   rw[List.getElem?_map,h2] at h1;simp at h1;subst h1;exact .r _ _);simpa[SI] using this)
theorem Gj (v:Value):(SI v).cells=v.cells.toList.map .r:=by cases v<;>rfl
theorem RX (v:Value):(SI v).okPart=true:=by cases v<;>rfl
theorem So {u:Value}(h:u.oneCell'=true):(AV.r u).cell1=true:=by cases u<;>first |rfl |(simp[Value.oneCell'] at h)
theorem JU {sz:Nat}: ∀(is:List Nat)(c:List AV)(i:Nat)(vs:List Value)(els:List (List AV))(op:List (Nat×Nat×AV)),LM sz i is c=some (els,op)→Reps w z th c vs→
  ∃xls,GE sz i is (vs.map SI)=some xls∧xls.length=els.length∧(∀(q:Nat)(e:List AV),els[q]?=some e→e.length=sz∧ ∃ys:List Value,xls[q]?=some (ys.map .r)∧(∀u ∈ ys,u.oneCell'=true)∧ ∀(j:Nat)(x:AV),e[j]?=some x→ ∃y,ys[j]?=some y∧ ∀f,CellU w z th f op (i+q) j x y)∧ ∀i' j,i'<i→EC op i' j=none
 | [],[],i,vs,els,op,h,hr=>by
   simp only[LM,Option.some.injEq,Prod.mk.injEq] at h;obtain⟨rfl,rfl⟩:=h;obtain rfl:=hr.of_nil;exact⟨[],rfl,rfl,fun q e h=>by simp at h,fun i' j _=>rfl⟩
 |j::is,x::r,i,vs,els,op,h,hr=>by
  simp only[LM] at h;split at h
  ·rename_i hc;obtain⟨rfl,h2,h3,h4⟩:=hc
   split at h
   ·rename_i c els' op' hl hE
    simp only[Option.some.injEq,Prod.mk.injEq] at h;obtain⟨rfl,rfl⟩:=h;obtain⟨v,vs',rfl,hv,hvs⟩:=hr.head;obtain⟨xls,g1,g2,g3,g4⟩:=JU is r (j+1) vs' els' op' hE hvs;have hcells:=CL hv h3;have hone:=FF hv h3 h4
    have hsz:v.cells.toList.length=sz:=by rw[hcells.1,h2]
    refine⟨v.cells.toList.map .r::xls,?_,by simp[g2],fun q e hq=>?_,fun i' j' hi=>?_⟩
    ·simp only[List.map_cons,GE]
     rw[if_pos ⟨trivial,by rw[Gj];simpa using hsz,RX v,by
      rw[Gj];refine List.all_eq_true.2 fun x hx=>?_;obtain⟨u,hu,rfl⟩:=List.mem_map.1 hx
      exact So (hone u hu)⟩,g1,Gj]
     rfl
    ·cases q with
     |zero=>
      simp at hq;subst hq;refine⟨by rw[K8 hl,h2],v.cells.toList,rfl,hone,fun k x hx=>?_⟩;have key: ∀f,∃y,v.cells.toList[k]?=some y∧CellU w z th f (Da j 0 _) j (0+k) x y:=fun f=>I8 (f:=f) (i:=j) (j0:=0) hl hcells k x hx;obtain⟨y,hy,_⟩:=key (fun _=>False);refine⟨y,hy,fun f=>?_⟩;obtain⟨y',hy',hcu⟩:=key f;rw[hy] at hy';cases hy';rw[Nat.zero_add] at hcu;unfold CellU at hcu ⊢;rw[Nat.add_zero,DF];split at hcu
      ·rename_i x' hx';first |exact hcu |(rw[hx'];exact hcu)
      ·rename_i hx';first |(rw[hx'];simp only;rw[g4 j k (by omega)];exact hcu) |(rw[g4 j k (by omega)];exact hcu) |(simp only[g4 j k (by omega)];exact hcu)
     |succ q=>
      obtain⟨k1,ys,k2,k3,k4⟩:=g3 q e (by simpa using hq);refine⟨k1,ys,by simpa using k2,k3,fun k x hx=>?_⟩;obtain⟨y,hy,hcu⟩:=k4 k x hx;refine⟨y,hy,fun f=>?_⟩;have hcu:=hcu f;unfold CellU at hcu ⊢;rw[DF,Ep _ _ _ _ (by omega),show j+(q+1)=j+1+q by omega];exact hcu
    ·rw[DF,Ep _ _ _ _ (by omega)]
     exact g4 i' j' (by omega)
   ·cases h
  ·cases h
 | [],_::_,_,_,_,_,h,_=>by simp[LM] at h
 |_::_,[],_,_,_,_,h,_=>by simp[LM] at h
theorem Mem.say (h:Mem E o n th z w){i:Nat}{nd nd':Nd}(hi:lk o i=some nd)(hn: ∀L,th[i]?=some L→NdAt w z th L nd→NdAt w z th L nd')(hu: ∀T k els op,nd'≠ .ul T k els op:=by intro _ _ _ _ h;cases h):Mem E ((i,nd')::o) n th z w:=by
 have key: ∀j x,lk ((i,nd')::o) j=some x→ ∃y,lk o j=some y:=by
  intro j x hj;simp only[lk] at hj;split at hj
  ·rename_i e;subst e;exact⟨_,hi⟩
  ·exact⟨_,hj⟩
 refine⟨h.len,fun j x hj=>?_,fun j k x y L M hj hk=>?_,h.zlt,h.grow,h.frame,h.zin,h.zout,h.zb,h.globs,h.pre,h.sys,?_⟩
 ·simp only[lk] at hj
  split at hj
  ·rename_i e;subst e;cases hj
   obtain⟨L,h1,h2,h3⟩:=h.nds i nd hi;exact⟨L,h1,hn L h1 h2,h3⟩
  ·exact h.nds j x hj
 ·obtain⟨x',hj'⟩:=key j x hj
  obtain⟨y',hk'⟩:=key k y hk;exact h.inj j k x' y' L M hj' hk'
 ·obtain⟨U,hU⟩:=h.uls
  refine⟨U,fun j T k els op L hj hL=>?_,hU.lt,hU.nz,hU.ow,hU.inj,fun j x L q hj hL hp=>?_⟩
  ·simp only[lk] at hj
   split at hj
   ·cases hj;exact(hu _ _ _ _ rfl).elim
   ·exact hU.at_ j T k els op L hj hL
  ·obtain⟨x',hj'⟩:=key j x hj
   exact hU.kn j x' L q hj' hL hp
theorem Sim.say (h:Sim E N st th z a w){i:Nat}{nd nd':Nd}(hi:lk st.o i=some nd)(hn: ∀L,th[i]?=some L→NdAt w z th L nd→NdAt w z th L nd')(hu: ∀T k els op,nd'≠ .ul T k els op:=by intro _ _ _ _ h;cases h):Sim E N (BO st i nd') th z a w:=
 ⟨h.mem.say hi hn hu,h.size,h.dfs,h.slots⟩
theorem Mem.sayU (h:Mem E o n th z w){i:Nat}{T k:Nat}{xls els:List (List AV)}{op:List (Nat×Nat×AV)}(hi:lk o i=some (.lst T k xls))(hl:els.length=xls.length)(hk: ∀e ∈ els,e.length=k)(hU: ∃U,UlOK U E ((i,.ul T k els op)::o) th z w):Mem E ((i,.ul T k els op)::o) n th z w:=by
 have key: ∀j x,lk ((i,Nd.ul T k els op)::o) j=some x→ ∃y,lk o j=some y:=by
  intro j x hj;simp only[lk] at hj;split at hj
  ·rename_i e;subst e;exact⟨_,hi⟩
  ·exact⟨_,hj⟩
 refine⟨h.len,fun j x hj=>?_,fun j k x y L M hj hk=>?_,h.zlt,h.grow,h.frame,h.zin,h.zout,h.zb,h.globs,h.pre,h.sys,hU⟩
 ·simp only[lk] at hj
  split at hj
  ·rename_i e;subst e;cases hj
   obtain⟨L,h1,h2,h3⟩:=h.nds i _ hi;refine⟨L,h1,?_,h3⟩
   rcases h2 with ⟨hp,hn⟩ |⟨hp,cells,fr,g1,g2,g3,g4,g5,_⟩
   ·exact .inl ⟨hp,List.length_eq_zero_iff.1 (by rw[hl,hn];rfl)⟩
   ·exact .inr ⟨hp,cells,fr,g1,g2,g3,g4,by omega,fun q e he=>by rw[g3];exact hk e (List.mem_of_getElem? he)⟩
  ·exact h.nds j x hj
 ·obtain⟨x',hj'⟩:=key j x hj
  obtain⟨y',hk'⟩:=key k y hk;exact h.inj j k x' y' L M hj' hk'
theorem UlOK.say0 {U:Nat→Nat→Prop}(hU:UlOK U E o th z w){i:Nat}{nd:Nd}(hi:lk o i=some nd){T k:Nat}{els:List (List AV)}{op:List (Nat×Nat×AV)}(hA: ∀L,th[i]?=some L→UlAt w z th (fun _=>False) L els op):UlOK U E ((i,.ul T k els op)::o) th z w:=by
 refine⟨fun j T' k' els' op' L hj hL=>?_,hU.lt,hU.nz,hU.ow,hU.inj,fun j x L q hj hL hp=>?_⟩
 ·simp only[lk] at hj
  split at hj
  ·rename_i e;subst e;cases hj
   obtain⟨F,h1,h2,h3⟩:=hA L hL;exact⟨F,fun a b c hb=>(h1 a b c hb).elim,h2,h3⟩
  ·exact hU.at_ j T' k' els' op' L hj hL
 ·simp only[lk] at hj
  split at hj
  ·rename_i e;subst e;exact hU.kn i nd L q hi hL hp
  ·exact hU.kn j x L q hj hL hp
theorem MN (h:Sim E N st th z a w){T:TypeId}{len:Nat}{parts:Array (Nat×Operand)}{d:Option Nat}{t:TypeId}{pos:String}{aft:Array Edge}{g:Option (Nat×Bool)}{k:AV→AS→Prop}{c:Prop}{v:AV}{s:AS}(hq:E6 P E.G st (.buildSlice T len parts)=some (c,v,s))(hc:c)(hk:k v s):
  JZ P E N ⟨d,.buildSlice T len parts,t,pos,aft,g⟩ a w th [] st.m k true:=by
 simp only[E6] at hq;unfold MW at hq;split at hq
 ·rename_i e s1 b1 z1 c1 hT he
  split at hq
  ·rename_i kk sz by' zs c' st' hTe hf
   split at hq
   ·rename_i els op hels
    simp only[Option.some.injEq,Prod.mk.injEq] at hq;obtain⟨rfl,rfl,rfl⟩:=hq;obtain⟨rfl,hle⟩:=hc;obtain⟨z',hz,hS,hr,hm,hn⟩:=F0 c1 h (Bs h he) hf;obtain⟨xls,g1,g2,g3,g4⟩:=JU _ c' 0 _ els op hels hr;rw[←g2] at hle
    have hex:Reps w z' [] (((parts.toList.map (·.2)).map a.eval).map SI) ((parts.toList.map (·.2)).map a.eval):=⟨by simp,fun i x y h1 h2=>by
     rw[List.getElem?_map,h2] at h1;simp at h1;subst h1;exact QH _⟩
    obtain⟨w',r1,r2,r3⟩:=Ih hS (d:=d) (t:=t) (pos:=pos) (aft:=aft) (g:=g) hT hTe hex g1 hle;have hget:=hS.get_new ⟨w.heap.size,0,sz,xls.length,false⟩;have le:Le w z' w' z':=r2.le (fun _ _ h=>h) hS.mem.zlt
    have hlk:lk ((st'.n,Nd.lst e sz xls)::st'.o) st'.n=some (.lst e sz xls):=by simp[lk]
    obtain⟨U,hU⟩:=r3.mem.uls
    have hmem:=Mem.sayU r3.mem (i:=st'.n) (T:=e) (k:=sz) (xls:=xls) (els:=els) (op:=op) hlk g2.symm (fun e' he'=>by
     obtain⟨q,hq⟩:=List.mem_iff_getElem?.1 he'
     exact(g3 q e' hq).1) ⟨U,hU.say0 hlk (fun L hL=>by
     rw[hget] at hL;cases hL;obtain⟨L',k1,k2,_⟩:=r3.mem.nds st'.n _ hlk;rw[hget] at k1;cases k1
     rcases k2 with ⟨hp,_⟩ |⟨_,cells,fr,q1,q2,q3,q4,q5,q6⟩
     ·cases hp
     refine⟨fun _ _ _=>False,fun _ _ _ h=>h,fun _ _ _ _ _ h=>h.elim,fun i e' he' j x hx=>?_⟩;obtain⟨m1,ys,m2,m3,m4⟩:=g3 i e' he';obtain⟨y,hy,hcu⟩:=m4 j x hx;obtain⟨p1,p2⟩:=q6 i _ m2;obtain⟨y',hy',hr',ho'⟩:=p2 j (.r y) (by rw[List.getElem?_map,hy];rfl);obtain rfl:=hr'.r_inv;rw[Nat.zero_add] at hcu
     exact⟨y',by rw[CB q1];exact hy',ho',(hcu _).on le (fun _ h=>h.elim) _⟩)⟩
    have hsub:Sim E N (C2 st' (.ul e sz els op)) (th++[⟨w.heap.size,0,sz,xls.length,false⟩]) z' a w':=
     ⟨hmem.sub (fun i x hi=>by
      simp only[C2,lk] at hi ⊢;split
      ·rename_i e1;rw[if_pos e1] at hi;exact hi
      ·rename_i e1;rw[if_neg e1] at hi;exact hi),r3.size,r3.dfs,r3.slots⟩
    rw[←g2];exact⟨_,_,_,_,z',w',.inl r1,by rw[g2];exact hk,hsub,.s _ _ 0 _ _ 0 _ hget rfl (Nat.le_refl _) (by simp) (fun _=>by simp),hm,fun _=>r2,Br _ _,r2.t⟩
   ·cases hq
  ·cases hq
 ·cases hq
end
end Go.AM
