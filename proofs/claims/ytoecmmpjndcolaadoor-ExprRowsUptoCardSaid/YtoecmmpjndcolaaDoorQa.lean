/- The abstract machine, 1: abstract values, what they stand for in a world, and what stays of that when the world goes on. -/
import Derived.WalkKit
import Derived.StillTail
import Derived.OrdersHeld
import Derived.RegionTactic
set_option linter.unusedSimpArgs false
set_option linter.unusedVariables false
namespace Go.AM
open Go
/-- Abstract values: r: this very value; ro: a slice that is read (its elements, each as its cells); re: an address into a run of cells that is read; s: a slice of an own list; p: an address into an own thing. -/
inductive AV where
  | r (v : Value)
  | ro (t : Bool) (k : Nat) (els : List (List AV))
  | re (t : Bool) (c : List AV) (off : Nat)
  | s (n lo len : Nat)
  | p (n i off : Nat)
  | agg (c : List AV)
  | tup (c : List AV)
  | fn (f : Nat) (c : List AV)
  | ifc (t : Nat) (v : AV)
instance : Inhabited AV := ⟨.r undef⟩
/-- Where an own thing lies: its block, the offset of its first cell, the cells of an element, how many elements there is room for. -/
structure NLoc where
  b : Nat
  o : Nat
  k : Nat
  cap : Nat
  ph : Bool := false
abbrev Zone := Bool → Nat → Prop
inductive Rep (w : World) (z : Zone) : List NLoc → AV → Value → Prop
  | r (th : List NLoc) (v : Value) : Rep w z th (.r v) v
  | nil (th : List NLoc) (t : Bool) (k : Nat) (a : Option Addr) (c : Nat) : Rep w z th (.ro t k []) (.slice a 0 c)
  | ro (th : List NLoc) (t : Bool) (k : Nat) (els : List (List AV)) (b o c : Nat) (ys : Nat → Nat → Value) (hz : z t b) (hc : els.length ≤ c) (hk : ∀ (i : Nat) (e : List AV), els[i]? = some e → e.length = k)
      (hy : ∀ (i : Nat) (e : List AV) (j : Nat) (x : AV), els[i]? = some e → e[j]? = some x → w.cell? ⟨b, o + i * k + j, none⟩ = some (ys i j))
      (h1 : ∀ (i : Nat) (e : List AV) (j : Nat) (x : AV), els[i]? = some e → e[j]? = some x → (ys i j).oneCell' = true)
      (hx : ∀ (i : Nat) (e : List AV) (j : Nat) (x : AV), els[i]? = some e → e[j]? = some x → Rep w z [] x (ys i j)) : Rep w z th (.ro t k els) (.slice (some ⟨b, o, none⟩) els.length c)
  | re (th : List NLoc) (t : Bool) (c : List AV) (b o off : Nat) (ys : Nat → Value) (hz : z t b) (hy : ∀ (j : Nat) (x : AV), c[j]? = some x → w.cell? ⟨b, o + j, none⟩ = some (ys j))
      (hx : ∀ (j : Nat) (x : AV), c[j]? = some x → Rep w z [] x (ys j)) : Rep w z th (.re t c off) (.pointer (some ⟨b, o + off, none⟩))
  | s (th : List NLoc) (n lo len c x : Nat) (L : NLoc) (hL : th[n]? = some L) (hp : L.ph = false) (hl : len ≤ c) (hc : lo + c ≤ L.cap) (hx : 0 < c → x = L.o + lo * L.k) :
      Rep w z th (.s n lo len) (.slice (some ⟨L.b, x, none⟩) len c)
  | sn (th : List NLoc) (n lo : Nat) (L : NLoc) (hL : th[n]? = some L) (hp : L.ph = true) : Rep w z th (.s n lo 0) (.slice none 0 0)
  | p (th : List NLoc) (n i off : Nat) (L : NLoc) (hL : th[n]? = some L) : Rep w z th (.p n i off) (.pointer (some ⟨L.b, L.o + i * L.k + off, none⟩))
  | agg (th : List NLoc) (c : List AV) (ys : List Value) (hl : ys.length = c.length) (hx : ∀ (i : Nat) (x : AV) (y : Value), c[i]? = some x → ys[i]? = some y → Rep w z th x y) : Rep w z th (.agg c) (.agg ys.toArray)
  | tup (th : List NLoc) (c : List AV) (ys : List Value) (hl : ys.length = c.length) (hx : ∀ (i : Nat) (x : AV) (y : Value), c[i]? = some x → ys[i]? = some y → Rep w z th x y) : Rep w z th (.tup c) (.tuple ys.toArray)
  | fn (th : List NLoc) (f : Nat) (c : List AV) (ys : List Value) (hl : ys.length = c.length) (hx : ∀ (i : Nat) (x : AV) (y : Value), c[i]? = some x → ys[i]? = some y → Rep w z th x y) : Rep w z th (.fn f c) (.func (.func f) #[] ys.toArray)
  | ifc (th : List NLoc) (t : Nat) (x : AV) (v : Value) (hx : Rep w z th x v) : Rep w z th (.ifc t x) (.iface t v)
/-- Lists of values, pairwise. -/
def Reps (w : World) (z : Zone) (th : List NLoc) (c : List AV) (ys : List Value) : Prop := ys.length = c.length ∧ ∀ (i : Nat) (x : AV) (y : Value), c[i]? = some x → ys[i]? = some y → Rep w z th x y
/-- The world goes on: what is in a zone stands. -/
structure Le (w : World) (z : Zone) (w' : World) (z' : Zone) : Prop where
  sub : ∀ t b, z t b → z' t b
  same : ∀ t b, z t b → w'.heap[b]? = w.heap[b]?
theorem cell_heap {w w' : World} {b : Nat} (h : w'.heap[b]? = w.heap[b]?) (o : Nat) : w'.cell? ⟨b, o, none⟩ = w.cell? ⟨b, o, none⟩ := by
  unfold World.cell?; rw [h]
theorem frozen_heap {w w' : World} {b : Nat} (h : w'.heap[b]? = w.heap[b]?) (o : Nat) : w'.frozen? ⟨b, o, none⟩ = w.frozen? ⟨b, o, none⟩ := by
  unfold World.frozen?; rw [h]
theorem Le.refl (w : World) (z : Zone) : Le w z w z := ⟨fun _ _ h => h, fun _ _ _ => rfl⟩
theorem pre_get {α : Type} {th : List α} {n : Nat} {L : α} (more : List α) (h : th[n]? = some L) : (th ++ more)[n]? = some L := by
  rw [List.getElem?_append_left]; · exact h
  · exact (List.getElem?_eq_some_iff.1 h).1
theorem Rep.mono {w w' : World} {z z' : Zone} {th : List NLoc} {x : AV} {v : Value} (h : Rep w z th x v) (l : Le w z w' z') : ∀ more : List NLoc, (th = [] → more = []) ∨ True → Rep w' z' (th ++ more) x v := by
  induction h with
  | r th v => intro more _; exact .r _ v
  | nil th t k a c => intro more _; exact .nil _ t k a c
  | ro th t k els b o c ys hz hc hk hy ho hx ih => intro more _; exact .ro _ t k els b o c ys (l.sub _ _ hz) hc hk (fun i e j x h1 h2 => (cell_heap (l.same _ _ hz) _).trans (hy i e j x h1 h2)) ho (fun i e j x h1 h2 => by simpa using ih i e j x h1 h2 [] (.inr trivial))
  | re th t c b o off ys hz hy hx ih => intro more _; exact .re _ t c b o off ys (l.sub _ _ hz) (fun j x h1 => (cell_heap (l.same _ _ hz) _).trans (hy j x h1)) (fun j x h1 => by simpa using ih j x h1 [] (.inr trivial))
  | s th n lo len c x L hL hp hl hc hx => intro more _; exact .s _ n lo len c x L (pre_get _ hL) hp hl hc hx
  | sn th n lo L hL hp => intro more _; exact .sn _ n lo L (pre_get _ hL) hp
  | p th n i off L hL => intro more _; exact .p _ n i off L (pre_get _ hL)
  | agg th c ys hl hx ih => intro more _; exact .agg _ c ys hl (fun i x y h1 h2 => ih i x y h1 h2 more (.inr trivial))
  | tup th c ys hl hx ih => intro more _; exact .tup _ c ys hl (fun i x y h1 h2 => ih i x y h1 h2 more (.inr trivial))
  | fn th f c ys hl hx ih => intro more _; exact .fn _ f c ys hl (fun i x y h1 h2 => ih i x y h1 h2 more (.inr trivial))
  | ifc th t x v hx ih => intro more _; exact .ifc _ t x v (ih more (.inr trivial))
theorem Rep.on {w w' : World} {z z' : Zone} {th : List NLoc} {x : AV} {v : Value} (h : Rep w z th x v) (l : Le w z w' z') (more : List NLoc := []) : Rep w' z' (th ++ more) x v := h.mono l more (.inr trivial)
theorem Rep.on' {w w' : World} {z z' : Zone} {th : List NLoc} {x : AV} {v : Value} (h : Rep w z th x v) (l : Le w z w' z') : Rep w' z' th x v := by simpa using h.on l []
theorem Rep.pure {w : World} {z : Zone} {x : AV} {v : Value} (th : List NLoc) (h : Rep w z [] x v) : Rep w z th x v := h.on (Le.refl w z) th
theorem Reps.on {w w' : World} {z z' : Zone} {th : List NLoc} {c : List AV} {ys : List Value} (h : Reps w z th c ys) (l : Le w z w' z') (more : List NLoc := []) : Reps w' z' (th ++ more) c ys := ⟨h.1, fun i x y h1 h2 => (h.2 i x y h1 h2).on l more⟩
theorem Reps.nil {w : World} {z : Zone} {th : List NLoc} : Reps w z th [] [] := ⟨rfl, fun i x y h => by simp at h⟩
theorem Reps.cons {w : World} {z : Zone} {th : List NLoc} {x : AV} {y : Value} {c : List AV} {ys : List Value} (h : Rep w z th x y) (r : Reps w z th c ys) : Reps w z th (x :: c) (y :: ys) := by
  refine ⟨by simp [r.1], fun i a b h1 h2 => ?_⟩
  cases i with
  | zero => simp at h1 h2; subst h1 h2; exact h
  | succ i => simp at h1 h2; exact r.2 i a b h1 h2
theorem Reps.head {w : World} {z : Zone} {th : List NLoc} {x : AV} {c : List AV} {ys : List Value} (r : Reps w z th (x :: c) ys) : ∃ y ys', ys = y :: ys' ∧ Rep w z th x y ∧ Reps w z th c ys' := by
  cases ys with
  | nil => simp [Reps] at r
  | cons y ys' => exact ⟨y, ys', rfl, r.2 0 x y rfl rfl, by simpa using r.1, fun i a b h1 h2 => r.2 (i + 1) a b (by simpa using h1) (by simpa using h2)⟩
theorem Reps.of_nil {w : World} {z : Zone} {th : List NLoc} {ys : List Value} (r : Reps w z th [] ys) : ys = [] := by
  have := r.1; simpa using this
theorem Reps.get {w : World} {z : Zone} {th : List NLoc} {c : List AV} {ys : List Value} (r : Reps w z th c ys) {i : Nat} {x : AV} (h : c[i]? = some x) : ∃ y, ys[i]? = some y ∧ Rep w z th x y := by
  have hi : i < ys.length := by rw [r.1]; exact (List.getElem?_eq_some_iff.1 h).1
  exact ⟨ys[i], by simp [hi], r.2 i x _ h (by simp [hi])⟩
theorem Reps.append {w : World} {z : Zone} {th : List NLoc} {c d : List AV} {ys us : List Value} (r : Reps w z th c ys) (r' : Reps w z th d us) : Reps w z th (c ++ d) (ys ++ us) := by
  refine ⟨by simp [r.1, r'.1], fun i x y h1 h2 => ?_⟩
  rw [List.getElem?_append] at h1 h2
  by_cases hi : i < c.length
  · rw [if_pos hi] at h1; rw [if_pos (by rw [r.1]; exact hi)] at h2; exact r.2 i x y h1 h2
  · rw [if_neg hi] at h1; rw [if_neg (by rw [r.1]; exact hi), r.1] at h2; exact r'.2 _ x y h1 h2
theorem Reps.take {w : World} {z : Zone} {th : List NLoc} {c : List AV} {ys : List Value} (r : Reps w z th c ys) (n : Nat) : Reps w z th (c.take n) (ys.take n) := by
  refine ⟨by simp [r.1], fun i x y h1 h2 => ?_⟩
  rw [List.getElem?_take] at h1 h2
  split at h1
  · rename_i hi; rw [if_pos hi] at h2; exact r.2 i x y h1 h2
  · cases h1
theorem Reps.drop {w : World} {z : Zone} {th : List NLoc} {c : List AV} {ys : List Value} (r : Reps w z th c ys) (n : Nat) : Reps w z th (c.drop n) (ys.drop n) := by
  refine ⟨by simp [r.1], fun i x y h1 h2 => ?_⟩
  rw [List.getElem?_drop] at h1 h2
  exact r.2 _ x y h1 h2
/-- Whether an abstract value is one plain cell: no struct, no tuple. -/
def AV.cell1 : AV → Bool
  | .agg _ | .tup _ => false
  | .r (.agg _) | .r (.tuple _) => false
  | _ => true
/-- A look-up by number. -/
def lk {α : Type} : List (Nat × α) → Nat → Option α
  | [], _ => none
  | (i, x) :: r, j => if i = j then some x else lk r j
/-- Own things: a box: cells that may bear addresses of own things; a list: its elements, which do not. -/
inductive Nd where
  | box (T : TypeId) (c : List AV)
  | lst (T : TypeId) (k : Nat) (els : List (List AV))
def okFr (cells : Array Value) (fr : Nat × Nat) : Prop := ∀ i, i < cells.size → ¬ (fr.1 ≤ i ∧ i < fr.2)
def NdAt (w : World) (z : Zone) (th : List NLoc) (L : NLoc) : Nd → Prop
  | .box T c => L.ph = false ∧ ∃ cells fr, w.heap[L.b]? = some (.cells cells T fr) ∧ okFr cells fr ∧ L.o = 0 ∧ Reps w z th c cells.toList
  | .lst T k els => (L.ph = true ∧ els = []) ∨ (L.ph = false ∧ ∃ cells fr, w.heap[L.b]? = some (.cells cells T fr) ∧ okFr cells fr ∧ L.k = k ∧ L.o + L.cap * L.k ≤ cells.size ∧ els.length ≤ L.cap ∧
      ∀ (i : Nat) (e : List AV), els[i]? = some e → e.length = L.k ∧ ∀ (j : Nat) (x : AV), e[j]? = some x → ∃ y, cells[L.o + i * L.k + j]? = some y ∧ Rep w z [] x y ∧ y.oneCell' = true)
theorem NdAt.on {w w' : World} {z z' : Zone} {th : List NLoc} {L : NLoc} {nd : Nd} (h : NdAt w z th L nd) (l : Le w z w' z') (hb : L.ph = false → w'.heap[L.b]? = w.heap[L.b]?) (more : List NLoc := []) : NdAt w' z' (th ++ more) L nd := by
  cases nd with
  | box T c => obtain ⟨hp, cells, fr, h1, h2, h3, h4⟩ := h; exact ⟨hp, cells, fr, (hb hp).trans h1, h2, h3, h4.on l more⟩
  | lst T k els =>
    rcases h with h | ⟨hp, cells, fr, h1, h2, h3, h4, h5, h6⟩
    · exact .inl h
    · exact .inr ⟨hp, cells, fr, (hb hp).trans h1, h2, h3, h4, h5, fun i e he => ⟨(h6 i e he).1, fun j x hx => let ⟨y, hy, hr, h1⟩ := (h6 i e he).2 j x hx; ⟨y, hy, hr.on' l, h1⟩⟩⟩
/-- What was given at the entry: the world, the blocks that are own from the entry on, the zones, the package's tables. -/
structure Env where
  w0 : World
  own : Nat → Prop
  z0 : Zone
  G : List (Nat × List Value)
  th0 : List NLoc
/-- What is no memory: as it was. -/
def Sys (w w' : World) : Prop := w'.os = w.os ∧ w'.tape = w.tape ∧ w'.output = w.output
theorem Sys.refl (w : World) : Sys w w := ⟨rfl, rfl, rfl⟩
theorem Sys.trans {a b c : World} (h : Sys a b) (h' : Sys b c) : Sys a c := ⟨h'.1.trans h.1, h'.2.1.trans h.2.1, h'.2.2.trans h.2.2⟩
/-- Memory. -/
structure Mem (E : Env) (o : List (Nat × Nd)) (n : Nat) (th : List NLoc) (z : Zone) (w : World) : Prop where
  len : th.length = n
  nds : ∀ i nd, lk o i = some nd → ∃ L, th[i]? = some L ∧ NdAt w z th L nd ∧ (L.ph = false → L.b < w.heap.size ∧ (∀ t, ¬ z t L.b) ∧ (E.own L.b ∨ E.w0.heap.size ≤ L.b))
  inj : ∀ i j x y L M, lk o i = some x → lk o j = some y → th[i]? = some L → th[j]? = some M → L.ph = false → M.ph = false → L.b = M.b → i = j
  zlt : ∀ t b, z t b → b < w.heap.size
  grow : E.w0.heap.size ≤ w.heap.size
  frame : ∀ b, b < E.w0.heap.size → ¬ E.own b → w.heap[b]? = E.w0.heap[b]?
  zin : ∀ t b, E.z0 t b → z t b
  zout : ∀ b, z true b → E.z0 true b ∨ E.own b ∨ E.w0.heap.size ≤ b
  zb : ∀ b, z false b → E.z0 false b
  globs : ∀ g cs, (g, cs) ∈ E.G → z true g ∧ ∀ (j : Nat) v, cs[j]? = some v → w.cell? ⟨g, j, none⟩ = some v
  pre : ∀ (i : Nat) L, E.th0[i]? = some L → th[i]? = some L
  sys : Sys E.w0 w
/-- A state: what the slots hold, the own things, the next number. -/
structure AS where
  m : List (Nat × AV)
  o : List (Nat × Nd)
  n : Nat
def AS.put (st : AS) (d : Option Nat) (x : AV) : AS := match d with
  | some d => { st with m := (d, x) :: st.m }
  | none => st
structure Sim (E : Env) (N : Nat) (st : AS) (th : List NLoc) (z : Zone) (a : Act) (w : World) : Prop where
  mem : Mem E st.o st.n th z w
  size : a.tmps.size = N
  dfs : a.defers = []
  slots : ∀ i x, lk st.m i = some x → ∃ y, a.tmps[i]? = some y ∧ Rep w z th x y
/-- The world has grown: nothing of old has turned. -/
structure Ext (w w' : World) : Prop where
  size : w.heap.size ≤ w'.heap.size
  same : ∀ b, b < w.heap.size → w'.heap[b]? = w.heap[b]?
  sys : Sys w w'
theorem Ext.refl (w : World) : Ext w w := ⟨Nat.le_refl _, fun _ _ => rfl, Sys.refl w⟩
theorem Ext.trans {a b c : World} (h : Ext a b) (h' : Ext b c) : Ext a c := ⟨Nat.le_trans h.size h'.size, fun x hx => (h'.same x (Nat.lt_of_lt_of_le hx h.size)).trans (h.same x hx), h.sys.trans h'.sys⟩
theorem Ext.le {w w' : World} {z z' : Zone} (h : Ext w w') (hz : ∀ t b, z t b → z' t b) (hlt : ∀ t b, z t b → b < w.heap.size) : Le w z w' z' := ⟨hz, fun t b hb => h.same b (hlt t b hb)⟩
/-- Nothing has turned but what the own things of these numbers stand in. -/
structure ExtT (th : List NLoc) (ts : List Nat) (w w' : World) : Prop where
  size : w.heap.size ≤ w'.heap.size
  same : ∀ b, b < w.heap.size → (∀ n ∈ ts, ∀ L, th[n]? = some L → L.ph = false → L.b ≠ b) → w'.heap[b]? = w.heap[b]?
  sys : Sys w w'
theorem Ext.t {th : List NLoc} {ts : List Nat} {w w' : World} (h : Ext w w') : ExtT th ts w w' := ⟨h.size, fun b hb _ => h.same b hb, h.sys⟩
theorem ExtT.ext {th : List NLoc} {w w' : World} (h : ExtT th [] w w') : Ext w w' := ⟨h.size, fun b hb => h.same b hb (fun _ hn => by cases hn), h.sys⟩
/-- Own things keep their places. -/
def Later (th th' : List NLoc) : Prop := ∀ (i : Nat) L, th[i]? = some L → th'[i]? = some L
theorem Later.refl (th : List NLoc) : Later th th := fun _ _ h => h
theorem Later.trans {a b c : List NLoc} (h : Later a b) (h' : Later b c) : Later a c := fun i L hi => h' i L (h i L hi)
theorem later_app (th more : List NLoc) : Later th (th ++ more) := fun _ _ h => pre_get _ h
/-- The memory stands in a world that has grown. -/
theorem Mem.ext {E : Env} {o : List (Nat × Nd)} {n : Nat} {th : List NLoc} {z : Zone} {w w' : World} (h : Mem E o n th z w) (e : Ext w w') : Mem E o n th z w' := by
  have l : Le w z w' z := e.le (fun _ _ h => h) h.zlt
  refine ⟨h.len, fun i nd hi => ?_, h.inj, fun t b hb => Nat.lt_of_lt_of_le (h.zlt t b hb) e.size, Nat.le_trans h.grow e.size, fun b hb ho => ?_, h.zin, h.zout, h.zb, fun g cs hg => ?_, h.pre, h.sys.trans e.sys⟩
  · obtain ⟨L, h1, h2, h3⟩ := h.nds i nd hi
    exact ⟨L, h1, by simpa using h2.on l (fun hp => e.same _ (h3 hp).1) [], fun hp => ⟨Nat.lt_of_lt_of_le (h3 hp).1 e.size, (h3 hp).2⟩⟩
  · exact (e.same b (Nat.lt_of_lt_of_le hb h.grow)).trans (h.frame b hb ho)
  · obtain ⟨h1, h2⟩ := h.globs g cs hg
    exact ⟨h1, fun j v hv => (cell_heap (e.same _ (h.zlt _ _ h1)) _).trans (h2 j v hv)⟩
theorem Sim.ext {E : Env} {N : Nat} {st : AS} {th : List NLoc} {z : Zone} {a : Act} {w w' : World} (h : Sim E N st th z a w) (e : Ext w w') : Sim E N st th z a w' :=
  ⟨h.mem.ext e, h.size, h.dfs, fun i x hi => let ⟨y, hy, hr⟩ := h.slots i x hi; ⟨y, hy, hr.on' (e.le (fun _ _ h => h) h.mem.zlt)⟩⟩
theorem Sim.put {E : Env} {N : Nat} {st : AS} {th : List NLoc} {z : Zone} {a : Act} {w : World} (h : Sim E N st th z a w) {x : AV} {v : Value} (hr : Rep w z th x v) (d : Option Nat) (hd : ∀ i, d = some i → i < N) : Sim E N (st.put d x) th z (a.put d v) w := by
  cases d with
  | none => exact h
  | some d =>
    refine ⟨h.mem, by simp [Act.put, h.size], by simp [Act.put, h.dfs], fun i y hi => ?_⟩
    simp only [AS.put, lk] at hi
    simp only [Act.put]
    by_cases he : d = i
    · subst he
      rw [if_pos rfl] at hi
      cases hi
      exact ⟨v, by rw [Array.getElem?_setIfInBounds_self_of_lt]; rw [h.size]; exact hd _ rfl, hr⟩
    · rw [if_neg he] at hi
      obtain ⟨u, hu, hr'⟩ := h.slots i y hi
      exact ⟨u, by rw [Array.getElem?_setIfInBounds_ne he]; exact hu, hr'⟩
/-- A new own thing in a world that has grown. -/
theorem Mem.add {E : Env} {o : List (Nat × Nd)} {n : Nat} {th : List NLoc} {z : Zone} {w w' : World} (h : Mem E o n th z w) (e : Ext w w') (L : NLoc) (nd : Nd) (hb : w.heap.size ≤ L.b) (hb' : L.b < w'.heap.size) (hn : NdAt w' z (th ++ [L]) L nd)
    : Mem E ((n, nd) :: o) (n + 1) (th ++ [L]) z w' := by
  have h' := h.ext e
  have l : Le w' z w' z := Le.refl _ _
  have hget : (th ++ [L])[n]? = some L := by rw [← h.len]; simp
  refine ⟨by simp [h.len], fun i y hi => ?_, fun i j x y M M' hi hj hM hM' hp hp' hbb => ?_, h'.zlt, h'.grow, h'.frame, h'.zin, h'.zout, h'.zb, h'.globs, fun i L hi => pre_get _ (h.pre i L hi), h'.sys⟩
  · simp only [lk] at hi
    by_cases he : n = i
    · subst he
      rw [if_pos rfl] at hi; cases hi
      exact ⟨L, hget, hn, fun _ => ⟨hb', fun t hz => by have := h.zlt _ _ hz; omega, .inr (Nat.le_trans h.grow hb)⟩⟩
    · rw [if_neg he] at hi
      obtain ⟨M, h1, h2, h3⟩ := h'.nds i y hi
      exact ⟨M, pre_get _ h1, h2.on l (fun _ => rfl) [L], h3⟩
  · have old : ∀ i x M, lk ((n, nd) :: o) i = some x → (th ++ [L])[i]? = some M → M.ph = false → (i = n ∧ M = L) ∨ (∃ x, lk o i = some x ∧ th[i]? = some M ∧ M.b < w.heap.size) := by
      intro i x M hi hM hp
      simp only [lk] at hi
      by_cases he : n = i
      · subst he; rw [hget] at hM; cases hM; exact .inl ⟨rfl, rfl⟩
      · rw [if_neg he] at hi
        obtain ⟨M', h1, _, h3⟩ := h.nds i x hi
        have := pre_get [L] h1
        rw [this] at hM; cases hM
        exact .inr ⟨x, hi, h1, (h3 hp).1⟩
    rcases old i x M hi hM hp with ⟨rfl, rfl⟩ | ⟨x1, a1, b1, c1⟩ <;> rcases old j y M' hj hM' hp' with ⟨rfl, rfl⟩ | ⟨x2, a2, b2, c2⟩
    · rfl
    · omega
    · omega
    · exact h.inj i j x1 x2 M M' a1 a2 b1 b2 hp hp' hbb
end Go.AM
