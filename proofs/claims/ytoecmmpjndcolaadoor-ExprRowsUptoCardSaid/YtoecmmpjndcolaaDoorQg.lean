/- The abstract machine, 7: own memory: made, written, given up to be read alone. -/
import Derived.Test.YtoecmmpjndcolaaDoorQf
import Derived.Deep.AppendSrc
import Derived.Laws.IdiomCopy
set_option linter.unusedSimpArgs false
set_option linter.unusedVariables false
namespace Go.AM
open Go
def rm {α : Type} : List (Nat × α) → Nat → List (Nat × α)
  | [], _ => []
  | (i, x) :: r, j => if i = j then rm r j else (i, x) :: rm r j
theorem lk_rm {α : Type} (o : List (Nat × α)) (i j : Nat) : lk (rm o i) j = if i = j then none else lk o j := by
  induction o with
  | nil => simp [rm, lk]
  | cons p r ih =>
    obtain ⟨n, x⟩ := p
    by_cases h : n = i
    · subst h; simp only [rm, if_true, ih, lk]; split <;> rfl
    · simp only [rm, if_neg h, lk, ih]
      by_cases h2 : n = j
      · subst h2; simp [Ne.symm h]
      · simp [h2]
section
variable {P : Program} {E : Env} {N : Nat} {st : AS} {th : List NLoc} {z : Zone} {a : Act} {w : World} {o : List (Nat × Nd)} {n : Nat}
/-- Less is known. -/
theorem Mem.sub (h : Mem E o n th z w) {o' : List (Nat × Nd)} (hs : ∀ i x, lk o' i = some x → lk o i = some x) : Mem E o' n th z w :=
  ⟨h.len, fun i nd hi => h.nds i nd (hs i nd hi), fun i j x y L M hi hj => h.inj i j x y L M (hs _ _ hi) (hs _ _ hj), h.zlt, h.grow, h.frame, h.zin, h.zout, h.zb, h.globs, h.pre, h.sys⟩
theorem Sim.sub (h : Sim E N st th z a w) {st' : AS} (hn : st'.n = st.n) (ho : ∀ i x, lk st'.o i = some x → lk st.o i = some x) (hm : ∀ i x, lk st'.m i = some x → lk st.m i = some x) : Sim E N st' th z a w :=
  ⟨by rw [hn]; exact h.mem.sub ho, h.size, h.dfs, fun i x hi => h.slots i x (hm i x hi)⟩
/-- A list is given up: from now on it is read alone. -/
theorem Mem.freeze (h : Mem E o n th z w) {i : Nat} {T : TypeId} {k : Nat} {els : List (List AV)} {L : NLoc} (hi : lk o i = some (.lst T k els)) (hL : th[i]? = some L) : Mem E (rm o i) n th (fun t b => z t b ∨ (t = true ∧ L.ph = false ∧ b = L.b)) w := by
  have le : Le w z w (fun t b => z t b ∨ (t = true ∧ L.ph = false ∧ b = L.b)) := ⟨fun _ _ h => .inl h, fun _ _ _ => rfl⟩
  obtain ⟨L', h1, _, h3⟩ := h.nds i _ hi
  rw [hL] at h1; cases h1
  have hs : ∀ j x, lk (rm o i) j = some x → i ≠ j ∧ lk o j = some x := by
    intro j x hj
    rw [lk_rm] at hj
    split at hj
    · cases hj
    · exact ⟨by assumption, hj⟩
  refine ⟨h.len, fun j nd hj => ?_, fun p q x y M M' hp hq => h.inj p q x y M M' (hs _ _ hp).2 (hs _ _ hq).2, ?_, h.grow, h.frame, fun t b hb => .inl (h.zin t b hb), ?_, ?_, fun g cs hg => ⟨.inl (h.globs g cs hg).1, (h.globs g cs hg).2⟩, h.pre, h.sys⟩
  · obtain ⟨hne, hj⟩ := hs _ _ hj
    obtain ⟨M, k1, k2, k3⟩ := h.nds j nd hj
    refine ⟨M, k1, by simpa using k2.on le (fun _ => rfl) [], fun hp => ⟨(k3 hp).1, fun t hz => ?_, (k3 hp).2.2⟩⟩
    rcases hz with hz | ⟨_, hp2, hz⟩
    · exact (k3 hp).2.1 t hz
    · exact hne (h.inj i j _ _ L M hi hj hL k1 hp2 hp hz.symm)
  · rintro t b (hb | ⟨_, hp, rfl⟩)
    · exact h.zlt t b hb
    · exact (h3 hp).1
  · rintro b (hb | ⟨_, hp, rfl⟩)
    · exact h.zout b hb
    · rcases (h3 hp).2.2 with h5 | h5
      · exact .inr (.inl h5)
      · exact .inr (.inr h5)
  · rintro b (hb | ⟨hf, _⟩)
    · exact h.zb b hb
    · cases hf
theorem Sim.freeze (h : Sim E N st th z a w) {i : Nat} {T : TypeId} {k : Nat} {els : List (List AV)} {L : NLoc} (hi : lk st.o i = some (.lst T k els)) (hL : th[i]? = some L) :
    Sim E N { st with o := rm st.o i } th (fun t b => z t b ∨ (t = true ∧ L.ph = false ∧ b = L.b)) a w :=
  ⟨h.mem.freeze hi hL, h.size, h.dfs, fun j x hj => let ⟨y, hy, hr⟩ := h.slots j x hj; ⟨y, hy, hr.on' ⟨fun _ _ h => .inl h, fun _ _ _ => rfl⟩⟩⟩
/-- A slice of an own list, seen as a slice that is read. -/
theorem Rep.seen {z' : Zone} {t : Bool} {L : NLoc} {T : TypeId} {k : Nat} {els : List (List AV)} {i lo len : Nat} {v : Value} (hr : Rep w z th (.s i lo len) v) (hL : th[i]? = some L) (hn : NdAt w z th L (.lst T k els)) (hle : lo + len ≤ els.length)
    (hz : L.ph = false → z' t L.b) (hs : ∀ t b, z t b → z' t b) (th' : List NLoc) : Rep w z' th' (.ro t k ((els.drop lo).take len)) v := by
  obtain ⟨L', hL', hcase⟩ := hr.s_inv
  rw [hL] at hL'; cases hL'
  have hlen : ((els.drop lo).take len).length = len := by simp; omega
  rcases hcase with ⟨_, rfl, rfl⟩ | ⟨hp, c, o, rfl, hl, hcap, ho⟩
  · simp only [List.take_zero]; exact .nil _ _ _ _ _
  rcases hn with ⟨hp', _⟩ | ⟨_, cells, fr, h2, h3, h4, h5, h6, h7⟩
  · rw [hp] at hp'; cases hp'
  by_cases hz0 : len = 0
  · subst hz0; simp only [List.take_zero]; exact .nil _ _ _ _ _
  · have ho := ho (by omega)
    subst ho
    have key : Rep w z' th' (.ro t k ((els.drop lo).take len)) (.slice (some ⟨L.b, L.o + lo * L.k, none⟩) ((els.drop lo).take len).length c) := by
      refine Rep.ro_mk (hz hp) (by rw [hlen]; exact hl) (fun i e he => ?_)
      rw [List.getElem?_take] at he
      split at he
      · rw [List.getElem?_drop] at he
        obtain ⟨k1, k2⟩ := h7 _ _ he
        refine ⟨k1.trans h4, fun j x hj => ?_⟩
        obtain ⟨y, hy, hr, h1⟩ := k2 j x hj
        refine ⟨y, ?_, hr.on' ⟨hs, fun _ _ _ => rfl⟩, h1⟩
        rw [cell_of h2, ← h4, show L.o + lo * L.k + i * L.k + j = L.o + (lo + i) * L.k + j by rw [Nat.add_mul]; omega]
        exact hy
      · cases he
    rw [hlen] at key; exact key
end
mutual
/-- What is laid into a list is given up: its own slices are read alone from now on. -/
def frz (st : AS) : AV → Option (AV × AS)
  | .s n lo len => match lk st.o n with
    | some (.lst _ k els) => if lo + len ≤ els.length then some (.ro true k ((els.drop lo).take len), { st with o := rm st.o n }) else none
    | _ => none
  | .r v => some (.r v, st)
  | .ro t k els => some (.ro t k els, st)
  | .re t c off => some (.re t c off, st)
  | .agg c => match frzL st c with
    | some (c', st') => some (.agg c', st')
    | none => none
  | .tup c => match frzL st c with
    | some (c', st') => some (.tup c', st')
    | none => none
  | _ => none
def frzL (st : AS) : List AV → Option (List AV × AS)
  | [] => some ([], st)
  | x :: r => match frz st x with
    | none => none
    | some (x', st1) => match frzL st1 r with
      | none => none
      | some (r', st2) => some (x' :: r', st2)
end
section
variable {P : Program} {E : Env} {N : Nat} {th : List NLoc} {a : Act} {w : World}
mutual
theorem frz_sound : ∀ (x : AV) {st st' : AS} {z : Zone} {v : Value} {x' : AV}, Sim E N st th z a w → Rep w z th x v → frz st x = some (x', st') →
    ∃ z', (∀ t b, z t b → z' t b) ∧ Sim E N st' th z' a w ∧ Rep w z' [] x' v ∧ st'.m = st.m ∧ st'.n = st.n
  | .s i lo len, st, st', z, v, x', h, hr, hq => by
    simp only [frz] at hq
    split at hq
    · rename_i T k els hi
      split at hq
      · rename_i hle; cases hq
        obtain ⟨L, h1, h2, h3⟩ := h.mem.nds i _ hi
        exact ⟨_, fun _ _ h => .inl h, h.freeze hi h1, hr.seen h1 h2 hle (fun hp => .inr ⟨rfl, hp, rfl⟩) (fun _ _ h => .inl h) [], rfl, rfl⟩
      · cases hq
    · cases hq
  | .r u, st, st', z, v, x', h, hr, hq => by
    simp only [frz] at hq; cases hq
    obtain rfl := hr.r_inv
    exact ⟨z, fun _ _ h => h, h, .r _ _, rfl, rfl⟩
  | .ro t k els, st, st', z, v, x', h, hr, hq => by
    simp only [frz] at hq; cases hq
    obtain ⟨ad, c, rfl, hc, hn | ⟨b, o, rfl, hz, hcell⟩⟩ := hr.ro_inv
    · subst hn; exact ⟨z, fun _ _ h => h, h, .nil _ _ _ _ _, rfl, rfl⟩
    · exact ⟨z, fun _ _ h => h, h, Rep.ro_mk hz hc hcell, rfl, rfl⟩
  | .re t c off, st, st', z, v, x', h, hr, hq => by
    simp only [frz] at hq; cases hq
    obtain ⟨b, o, rfl, hz, hcell⟩ := hr.re_inv
    exact ⟨z, fun _ _ h => h, h, Rep.re_mk hz hcell, rfl, rfl⟩
  | .agg c, st, st', z, v, x', h, hr, hq => by
    simp only [frz] at hq
    split at hq
    · rename_i c' st1 hc; cases hq
      obtain ⟨ys, rfl, hc'⟩ := hr.agg_inv
      obtain ⟨z', hz, hs, hr', hm, hn⟩ := frzL_sound c h hc' hc
      exact ⟨z', hz, hs, .agg _ _ _ hr'.1 hr'.2, hm, hn⟩
    · cases hq
  | .p _ _ _, _, _, _, _, _, _, _, hq => by simp [frz] at hq
  | .tup c, st, st', z, v, x', h, hr, hq => by
    simp only [frz] at hq
    split at hq
    · rename_i c' st1 hc; cases hq
      obtain ⟨ys, rfl, hc'⟩ := hr.tup_inv
      obtain ⟨z', hz, hs, hr', hm, hn⟩ := frzL_sound c h hc' hc
      exact ⟨z', hz, hs, .tup _ _ _ hr'.1 hr'.2, hm, hn⟩
    · cases hq
  | .fn _ _, _, _, _, _, _, _, _, hq => by simp [frz] at hq
  | .ifc _ _, _, _, _, _, _, _, _, hq => by simp [frz] at hq
theorem frzL_sound : ∀ (c : List AV) {st st' : AS} {z : Zone} {ys : List Value} {c' : List AV}, Sim E N st th z a w → Reps w z th c ys → frzL st c = some (c', st') →
    ∃ z', (∀ t b, z t b → z' t b) ∧ Sim E N st' th z' a w ∧ Reps w z' [] c' ys ∧ st'.m = st.m ∧ st'.n = st.n
  | [], st, st', z, ys, c', h, hr, hq => by
    simp only [frzL] at hq; cases hq
    obtain rfl := hr.of_nil
    exact ⟨z, fun _ _ h => h, h, .nil, rfl, rfl⟩
  | x :: r, st, st', z, ys, c', h, hr, hq => by
    simp only [frzL] at hq
    split at hq
    · cases hq
    · rename_i x1 st1 hx
      split at hq
      · cases hq
      · rename_i r1 st2 hr1; cases hq
        obtain ⟨y, ys', rfl, hy, hys⟩ := hr.head
        obtain ⟨z1, hz1, hs1, hr1', hm1, hn1⟩ := frz_sound x h hy hx
        obtain ⟨z2, hz2, hs2, hr2', hm2, hn2⟩ := frzL_sound r hs1 (by simpa using hys.on ⟨hz1, fun _ _ _ => rfl⟩ []) hr1
        exact ⟨z2, fun t b hb => hz2 t b (hz1 t b hb), hs2, .cons (hr1'.on' ⟨hz2, fun _ _ _ => rfl⟩) hr2', hm2.trans hm1, hn2.trans hn1⟩
end
end
section
variable {P : Program} {E : Env} {N : Nat} {st : AS} {th : List NLoc} {z : Zone} {a : Act} {w : World} {o : List (Nat × Nd)} {n : Nat}
theorem ext_alloc (w : World) (x : Obj) : Ext w (w.alloc x) := ⟨by simp, fun b hb => by show (w.heap.push x)[b]? = _; simp [Array.getElem?_push, show b ≠ w.heap.size by omega], ⟨rfl, rfl, rfl⟩⟩
theorem new_heap (w : World) (x : Obj) : (w.alloc x).heap[w.heap.size]? = some x := by show (w.heap.push x)[w.heap.size]? = _; simp
/-- A new own thing, by an address. -/
theorem Sim.add (h : Sim E N st th z a w) {w' : World} (e : Ext w w') (L : NLoc) (nd : Nd) (hb : w.heap.size ≤ L.b) (hb' : L.b < w'.heap.size) (hn : NdAt w' z (th ++ [L]) L nd) :
    Sim E N { st with o := (st.n, nd) :: st.o, n := st.n + 1 } (th ++ [L]) z a w' :=
  ⟨h.mem.add e L nd hb hb' hn, h.size, h.dfs, fun i x hi => let ⟨y, hy, hr⟩ := h.slots i x hi; ⟨y, hy, hr.on (e.le (fun _ _ h => h) h.mem.zlt) [L]⟩⟩
theorem Sim.get_new (h : Sim E N st th z a w) (L : NLoc) : (th ++ [L])[st.n]? = some L := by rw [← h.mem.len]; simp
theorem Sim.box (h : Sim E N st th z a w) (T : TypeId) {x : AV} {v : Value} (hr : Rep w z th x v) (ho : x.okPart = true) :
    ∃ L, Sim E N { st with o := (st.n, .box T x.cells) :: st.o, n := st.n + 1 } (th ++ [L]) z a (w.alloc (.cells v.cells T)) ∧ Rep (w.alloc (.cells v.cells T)) z (th ++ [L]) (.p st.n 0 0) (.pointer (some ⟨w.heap.size, 0, none⟩)) ∧ Ext w (w.alloc (.cells v.cells T)) := by
  have e := ext_alloc w (.cells v.cells T)
  refine ⟨⟨w.heap.size, 0, 0, 1, false⟩, h.add e ⟨w.heap.size, 0, 0, 1, false⟩ _ (Nat.le_refl _) (by simp) ?_, ?_, e⟩
  · exact ⟨rfl, v.cells, (0, 0), new_heap _ _, fun i _ => by simp, rfl, (cells_sound hr ho).on (e.le (fun _ _ h => h) h.mem.zlt) _⟩
  · exact .p _ _ 0 0 _ (h.get_new _)
/-- An own thing is written. -/
theorem Mem.write (h : Mem E o n th z w) {i : Nat} {nd nd' : Nd} {L : NLoc} (hi : lk o i = some nd) (hL : th[i]? = some L) (hph : L.ph = false) {w' : World} (hy : Sys w w') (hs : w'.heap.size = w.heap.size) (hsame : ∀ b, b ≠ L.b → w'.heap[b]? = w.heap[b]?) (hn : NdAt w' z th L nd') :
    Mem E ((i, nd') :: o) n th z w' := by
  obtain ⟨L', h1, h2, h3⟩ := h.nds i _ hi
  rw [hL] at h1; cases h1
  obtain ⟨h3, h4, h5⟩ := h3 hph
  have le : Le w z w' z := ⟨fun _ _ h => h, fun t b hb => hsame b (fun e => by subst e; exact h4 t hb)⟩
  have hlk : ∀ j x, lk ((i, nd') :: o) j = some x → (i = j ∧ x = nd') ∨ (i ≠ j ∧ lk o j = some x) := by
    intro j x hj
    simp only [lk] at hj
    split at hj
    · rename_i e; cases hj; exact .inl ⟨e, rfl⟩
    · rename_i e; exact .inr ⟨e, hj⟩
  have hex : ∀ j x, lk ((i, nd') :: o) j = some x → ∃ y, lk o j = some y := by
    intro j x hj
    rcases hlk j x hj with ⟨rfl, _⟩ | ⟨_, hj⟩
    · exact ⟨_, hi⟩
    · exact ⟨_, hj⟩
  refine ⟨h.len, fun j x hj => ?_, fun p q x y M M' hp hq hM hM' e1 e2 hb => ?_, fun t b hb => by rw [hs]; exact h.zlt t b hb, by rw [hs]; exact h.grow, fun b hb ho => ?_, h.zin, h.zout, h.zb, fun g cs hg => ?_, h.pre, h.sys.trans hy⟩
  · rcases hlk j x hj with ⟨rfl, rfl⟩ | ⟨hne, hj⟩
    · exact ⟨L, hL, hn, fun _ => ⟨by rw [hs]; exact h3, h4, h5⟩⟩
    · obtain ⟨M, k1, k2, k3⟩ := h.nds j x hj
      have hb : M.ph = false → M.b ≠ L.b := fun hp e => hne (h.inj i j _ _ L M hi hj hL k1 hph hp e.symm)
      exact ⟨M, k1, by simpa using k2.on le (fun hp => hsame _ (hb hp)) [], fun hp => ⟨by rw [hs]; exact (k3 hp).1, (k3 hp).2⟩⟩
  · obtain ⟨x', hx'⟩ := hex p x hp
    obtain ⟨y', hy'⟩ := hex q y hq
    exact h.inj p q x' y' M M' hx' hy' hM hM' e1 e2 hb
  · have : b ≠ L.b := fun e => by
      subst e
      rcases h5 with h5 | h5
      · exact ho h5
      · omega
    exact (hsame b this).trans (h.frame b hb ho)
  · obtain ⟨k1, k2⟩ := h.globs g cs hg
    exact ⟨k1, fun j v hv => (cell_heap (le.same _ _ k1) _).trans (k2 j v hv)⟩
theorem Sim.write (h : Sim E N st th z a w) {i : Nat} {nd nd' : Nd} {L : NLoc} (hi : lk st.o i = some nd) (hL : th[i]? = some L) (hph : L.ph = false) {w' : World} (hy : Sys w w') (hs : w'.heap.size = w.heap.size) (hsame : ∀ b, b ≠ L.b → w'.heap[b]? = w.heap[b]?) (hn : NdAt w' z th L nd') :
    Sim E N { st with o := (i, nd') :: st.o } th z a w' := by
  refine ⟨h.mem.write hi hL hph hy hs hsame hn, h.size, h.dfs, fun j x hj => ?_⟩
  obtain ⟨y, hy, hr⟩ := h.slots j x hj
  obtain ⟨L', h1, _, h3⟩ := h.mem.nds i _ hi
  rw [hL] at h1; cases h1
  exact ⟨y, hy, hr.on' ⟨fun _ _ h => h, fun t b hb => hsame b (fun e => by subst e; exact (h3 hph).2.1 t hb)⟩⟩
/-- Many cells set, one behind the other. -/
def setMany (cs : Array Value) : Nat → List Value → Array Value
  | _, [] => cs
  | o, v :: r => setMany (cs.setIfInBounds o v) (o + 1) r
theorem setMany_size : ∀ (vs : List Value) (o : Nat) (cs : Array Value), (setMany cs o vs).size = cs.size
  | [], _, _ => rfl
  | v :: r, o, cs => by simp only [setMany]; rw [setMany_size r]; simp
theorem setMany_get : ∀ (vs : List Value) (o : Nat) (cs : Array Value), o + vs.length ≤ cs.size → ∀ i, (setMany cs o vs)[i]? = if o ≤ i ∧ i < o + vs.length then vs[i - o]? else cs[i]?
  | [], o, cs, _, i => by simp only [setMany, List.length_nil]; rw [if_neg (by omega)]
  | v :: r, o, cs, h, i => by
    simp only [List.length_cons] at h ⊢
    simp only [setMany]
    rw [setMany_get r (o + 1) _ (by simp; omega)]
    by_cases h1 : i = o
    · subst h1
      rw [if_neg (by omega), if_pos (by omega)]
      simp [show i < cs.size by omega]
    · rw [Array.getElem?_setIfInBounds_ne (Ne.symm h1)]
      by_cases h2 : o + 1 ≤ i ∧ i < o + 1 + r.length
      · rw [if_pos h2, if_pos (by omega), show i - o = (i - (o + 1)) + 1 by omega, List.getElem?_cons_succ]
      · rw [if_neg h2, if_neg (by omega)]
theorem heap_setCells (b : Nat) : ∀ (vs : List Value) (o : Nat) (w : World) (cells : Array Value) (T : TypeId) (fr : Nat × Nat), w.heap[b]? = some (.cells cells T fr) →
    (w.setCells b o vs).heap.size = w.heap.size ∧ (∀ b', b' ≠ b → (w.setCells b o vs).heap[b']? = w.heap[b']?) ∧ (w.setCells b o vs).heap[b]? = some (.cells (setMany cells o vs) T fr)
  | [], o, w, cells, T, fr, h => ⟨rfl, fun _ _ => rfl, h⟩
  | v :: r, o, w, cells, T, fr, h => by
    have hs : (w.setCell ⟨b, o, none⟩ v).heap.size = w.heap.size := by simp [World.setCell]
    have hb : (w.setCell ⟨b, o, none⟩ v).heap[b]? = some (.cells (cells.setIfInBounds o v) T fr) := by
      simp only [World.setCell, Array.getElem?_modify, if_true, h, Option.map_some]
      rfl
    have hn : ∀ b', b' ≠ b → (w.setCell ⟨b, o, none⟩ v).heap[b']? = w.heap[b']? := by
      intro b' hne
      simp only [World.setCell, Array.getElem?_modify, if_neg (Ne.symm hne)]
    obtain ⟨i1, i2, i3⟩ := heap_setCells b r (o + 1) (w.setCell ⟨b, o, none⟩ v) _ T fr hb
    exact ⟨i1.trans hs, fun b' hne => (i2 b' hne).trans (hn b' hne), i3⟩
theorem sys_setCells (b : Nat) : ∀ (vs : List Value) (o : Nat) (w : World), Sys w (w.setCells b o vs)
  | [], _, w => Sys.refl w
  | v :: r, o, w => (show Sys w (w.setCell ⟨b, o, none⟩ v) from ⟨rfl, rfl, rfl⟩).trans (sys_setCells b r (o + 1) _)
theorem one_of_cell1 {x : AV} {v : Value} (hr : Rep w z th x v) (h : x.cell1 = true) : v.oneCell' = true := by
  cases hr
  case r => cases v <;> first | rfl | (simp [AV.cell1] at h)
  all_goals first | rfl | (simp [AV.cell1] at h)
end
end Go.AM
