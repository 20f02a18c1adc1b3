/- The abstract machine, 3: what the operations yield that only reckon and read: it is so in every world that has grown out of this one. -/
import Derived.Test.YtoecmmpjndcolaaDoorQb
set_option linter.unusedSimpArgs false
set_option linter.unusedVariables false
namespace Go.AM
open Go
section
variable {P : Program} {E : Env} {N : Nat} {st : AS} {th : List NLoc} {z : Zone} {a : Act} {w : World}
theorem ev_sound (h : Sim E N st th z a w) {x : Operand} {av : AV} (he : ev st E.G x = some av) : Rep w z th av (a.eval x) := by
  cases x with
  | tmp t =>
    obtain ⟨y, hy, hr⟩ := h.slots t av he
    simp only [Act.eval]
    rw [Array.getD_eq_getD_getElem?, hy]; exact hr
  | const v => simp only [ev, Option.some.injEq] at he; subst he; exact .r _ v
  | global g =>
    simp only [ev, Option.map_eq_some_iff] at he
    obtain ⟨cs, hc, rfl⟩ := he
    have hm : (g, cs) ∈ E.G := by
      generalize E.G = G at hc
      induction G with
      | nil => simp [lk] at hc
      | cons p r ih =>
        obtain ⟨i, c⟩ := p
        simp only [lk] at hc
        split at hc
        · rename_i e; subst e; cases hc; simp
        · exact List.mem_cons_of_mem _ (ih hc)
    obtain ⟨h1, h2⟩ := h.mem.globs g cs hm
    have := Rep.re (w := w) (z := z) th true (cs.map .r) g 0 0 (fun j => cs.getD j undef) h1 (fun j x hx => by
      simp only [List.getElem?_map, Option.map_eq_some_iff] at hx
      obtain ⟨v, hv, rfl⟩ := hx
      simpa [List.getD, hv] using h2 j v hv) (fun j x hx => by
      simp only [List.getElem?_map, Option.map_eq_some_iff] at hx
      obtain ⟨v, hv, rfl⟩ := hx
      simp only [List.getD, hv, Option.getD_some]; exact .r _ v)
    simpa [Act.eval] using this
  | func f => simp only [ev, Option.some.injEq] at he; subst he; exact .fn th f [] [] rfl (fun i x y h => by simp at h)
theorem evs_sound (h : Sim E N st th z a w) : ∀ {l : List Operand} {c : List AV}, evs st E.G l = some c → Reps w z th c (l.map a.eval)
  | [], c, he => by simp only [evs, Option.some.injEq] at he; subst he; exact .nil
  | x :: r, c, he => by
    simp only [evs] at he
    split at he
    · rename_i x1 c1 h1 h2; cases he; exact .cons (ev_sound h h1) (evs_sound h h2)
    · cases he
theorem Rep.agg_inv {x : Value} {c : List AV} (h : Rep w z th (.agg c) x) : ∃ ys : List Value, x = .agg ys.toArray ∧ Reps w z th c ys := by
  cases h with | agg _ _ ys hl hx => exact ⟨ys, rfl, hl, hx⟩
theorem Rep.tup_inv {x : Value} {c : List AV} (h : Rep w z th (.tup c) x) : ∃ ys : List Value, x = .tuple ys.toArray ∧ Reps w z th c ys := by
  cases h with | tup _ _ ys hl hx => exact ⟨ys, rfl, hl, hx⟩
theorem Rep.r_inv {x v : Value} (h : Rep w z th (.r v) x) : x = v := by cases h; rfl
theorem Rep.s_inv {x : Value} {n lo len : Nat} (h : Rep w z th (.s n lo len) x) : ∃ L, th[n]? = some L ∧ ((L.ph = true ∧ len = 0 ∧ x = .slice none 0 0) ∨ (L.ph = false ∧ ∃ c o, x = .slice (some ⟨L.b, o, none⟩) len c ∧ len ≤ c ∧ lo + c ≤ L.cap ∧ (0 < c → o = L.o + lo * L.k))) := by
  cases h with
  | s _ _ _ _ c o L hL hp hl hc hx => exact ⟨L, hL, .inr ⟨hp, c, o, rfl, hl, hc, hx⟩⟩
  | sn _ _ _ L hL hp => exact ⟨L, hL, .inl ⟨hp, rfl, rfl⟩⟩
theorem Rep.p_inv {x : Value} {n i off : Nat} (h : Rep w z th (.p n i off) x) : ∃ L, th[n]? = some L ∧ x = .pointer (some ⟨L.b, L.o + i * L.k + off, none⟩) := by
  cases h with | p _ _ _ _ L hL => exact ⟨L, hL, rfl⟩
/-- A slice that is read: its elements, by an address. -/
theorem Rep.ro_inv {x : Value} {t : Bool} {k : Nat} {els : List (List AV)} (h : Rep w z th (.ro t k els) x) : ∃ ad c, x = .slice ad els.length c ∧ els.length ≤ c ∧ (els = [] ∨ ∃ b o, ad = some ⟨b, o, none⟩ ∧ z t b ∧
    ∀ (i : Nat) (e : List AV), els[i]? = some e → e.length = k ∧ ∀ (j : Nat) (x : AV), e[j]? = some x → ∃ y, w.cell? ⟨b, o + i * k + j, none⟩ = some y ∧ Rep w z [] x y ∧ y.oneCell' = true) := by
  cases h with
  | nil _ _ _ ad c => exact ⟨ad, c, rfl, Nat.zero_le _, .inl rfl⟩
  | ro _ _ _ _ b o c ys hz hc hk hy h1 hx => exact ⟨_, c, rfl, hc, .inr ⟨b, o, rfl, hz, fun i e he => ⟨hk i e he, fun j x hj => ⟨_, hy i e j x he hj, hx i e j x he hj, h1 i e j x he hj⟩⟩⟩⟩
theorem Rep.ro_mk {t : Bool} {els : List (List AV)} {b o k c : Nat} (hz : z t b) (hc : els.length ≤ c)
    (h : ∀ (i : Nat) (e : List AV), els[i]? = some e → e.length = k ∧ ∀ (j : Nat) (x : AV), e[j]? = some x → ∃ y, w.cell? ⟨b, o + i * k + j, none⟩ = some y ∧ Rep w z [] x y ∧ y.oneCell' = true) : Rep w z th (.ro t k els) (.slice (some ⟨b, o, none⟩) els.length c) := by
  refine .ro th t k els b o c (fun i j => (w.cell? ⟨b, o + i * k + j, none⟩).getD undef) hz hc (fun i e he => (h i e he).1) (fun i e j x he hj => ?_) (fun i e j x he hj => ?_) (fun i e j x he hj => ?_)
  · obtain ⟨y, hy, _⟩ := (h i e he).2 j x hj; simp [hy]
  · obtain ⟨y, hy, _, h1⟩ := (h i e he).2 j x hj; simpa [hy] using h1
  · obtain ⟨y, hy, hr, _⟩ := (h i e he).2 j x hj; simpa [hy] using hr
theorem Rep.re_mk {t : Bool} {c : List AV} {b o off : Nat} (hz : z t b) (h : ∀ (j : Nat) (x : AV), c[j]? = some x → ∃ y, w.cell? ⟨b, o + j, none⟩ = some y ∧ Rep w z [] x y) : Rep w z th (.re t c off) (.pointer (some ⟨b, o + off, none⟩)) := by
  refine .re th t c b o off (fun j => (w.cell? ⟨b, o + j, none⟩).getD undef) hz (fun j x hj => ?_) (fun j x hj => ?_)
  · obtain ⟨y, hy, _⟩ := h j x hj; simp [hy]
  · obtain ⟨y, hy, hr⟩ := h j x hj; simpa [hy] using hr
theorem Rep.re_inv {x : Value} {t : Bool} {c : List AV} {off : Nat} (h : Rep w z th (.re t c off) x) : ∃ b o, x = .pointer (some ⟨b, o + off, none⟩) ∧ z t b ∧ ∀ (j : Nat) (x : AV), c[j]? = some x → ∃ y, w.cell? ⟨b, o + j, none⟩ = some y ∧ Rep w z [] x y := by
  cases h with
  | re _ _ _ b o _ ys hz hy hx => exact ⟨b, o, rfl, hz, fun j x hj => ⟨_, hy j x hj, hx j x hj⟩⟩
theorem cell_of {b o : Nat} {cells : Array Value} {T : TypeId} {fr : Nat × Nat} (h : w.heap[b]? = some (.cells cells T fr)) : w.cell? ⟨b, o, none⟩ = cells[o]? := by
  simp [World.cell?, h]
theorem frozen_of {b o : Nat} {cells : Array Value} {T : TypeId} {fr : Nat × Nat} (h : w.heap[b]? = some (.cells cells T fr)) (hf : okFr cells fr) (ho : o < cells.size) : w.frozen? ⟨b, o, none⟩ = false := by
  obtain ⟨lo, hi⟩ := fr
  simp only [World.frozen?, h]
  have := hf o ho
  simp only [Bool.and_eq_false_iff, decide_eq_false_iff_not]
  simp only at this
  omega
/-- The blocks of which something is known. -/
def Kn (st : AS) (th : List NLoc) (z : Zone) (b : Nat) : Prop := (∃ t, z t b) ∨ ∃ n nd L, lk st.o n = some nd ∧ th[n]? = some L ∧ L.ph = false ∧ L.b = b
theorem Kn.lt (h : Sim E N st th z a w) {b : Nat} (hb : Kn st th z b) : b < w.heap.size := by
  rcases hb with ⟨t, hz⟩ | ⟨n, nd, L, h1, h2, h3, rfl⟩
  · exact h.mem.zlt _ _ hz
  · obtain ⟨L', k1, _, k3⟩ := h.mem.nds n nd h1
    rw [h2] at k1; cases k1
    exact (k3 h3).1
/-- What is known is as it was. -/
def SameK (st : AS) (th : List NLoc) (z : Zone) (w w' : World) : Prop := ∀ b, Kn st th z b → w'.heap[b]? = w.heap[b]?
theorem Ext.sameK (h : Sim E N st th z a w) {w' : World} (e : Ext w w') : SameK st th z w w' := fun b hb => e.same b (hb.lt h)
theorem SameK.refl : SameK st th z w w := fun _ _ => rfl
/-- The run of cells behind an address: where it lies, and what is in it. -/
theorem cellsAt_sound (h : Sim E N st th z a w) {x : AV} {v : Value} (hr : Rep w z th x v) {c : List AV} {off : Nat} (hc : cellsAt st x = some (c, off)) :
    ∃ b o, v = .pointer (some ⟨b, o + off, none⟩) ∧ Kn st th z b ∧ ∀ (j : Nat) (x : AV), c[j]? = some x → ∃ y, w.cell? ⟨b, o + j, none⟩ = some y ∧ Rep w z th x y := by
  unfold cellsAt at hc
  split at hc
  · cases hc
    obtain ⟨b, o, rfl, hz, hy⟩ := hr.re_inv
    exact ⟨b, o, rfl, .inl ⟨_, hz⟩, fun j x hj => let ⟨y, h1, h2⟩ := hy j x hj; ⟨y, h1, h2.pure th⟩⟩
  · rename_i n i off
    obtain ⟨L, hL, rfl⟩ := hr.p_inv
    split at hc
    · rename_i T c1 ho
      split at hc
      · rename_i hi; cases hc; subst hi
        obtain ⟨L', h1, ⟨hp, cells, fr, h2, h3, h4, h5⟩, h6⟩ := h.mem.nds _ _ ho
        rw [hL] at h1; cases h1
        refine ⟨L.b, 0, by simp [h4], .inr ⟨_, _, L, ho, hL, hp, rfl⟩, fun j x hj => ?_⟩
        obtain ⟨y, hy, hr⟩ := h5.get hj
        exact ⟨y, by rw [cell_of h2]; simpa using hy, hr⟩
      · cases hc
    · rename_i T k els ho
      simp only [Option.map_eq_some_iff] at hc
      obtain ⟨e, he, hh⟩ := hc
      cases hh
      obtain ⟨L', h1, hnd, h8⟩ := h.mem.nds _ _ ho
      rw [hL] at h1; cases h1
      rcases hnd with ⟨_, hn⟩ | ⟨hp, cells, fr, h2, h3, h4, h5, h6, h7⟩
      · subst hn; simp at he
      refine ⟨L.b, L.o + i * L.k, rfl, .inr ⟨_, _, L, ho, hL, hp, rfl⟩, fun j x hj => ?_⟩
      obtain ⟨y, hy, hr, _⟩ := (h7 i _ he).2 j x hj
      exact ⟨y, by rw [cell_of h2]; exact hy, hr.pure th⟩
    · cases hc
  · cases hc
theorem add_none (b o d : Nat) : (⟨b, o, none⟩ : Addr).add d = ⟨b, o + d, none⟩ := by unfold Addr.add; split <;> simp_all
/-- A variable's load: in every world in which its cells read as they do here. -/
theorem run_loadVar {T : TypeId} {y : TY} (hT : tyOf P T = some y) {b o off : Nat} {c : List AV} {x : AV} (hp : pickC y c off = some x) (hs : y.k.agg = false → y.size = 1 ∨ True)
    (hc : ∀ (j : Nat) (x : AV), c[j]? = some x → ∃ u, w.cell? ⟨b, o + j, none⟩ = some u ∧ Rep w z th x u) :
    ∃ v, Rep w z th x v ∧ ∀ w', (∀ o, w'.cell? ⟨b, o, none⟩ = w.cell? ⟨b, o, none⟩) → (loadVar T ⟨b, o + off, none⟩).run P w' = .ok v w' := by
  unfold pickC at hp
  split at hp
  · rename_i hk
    split at hp
    · rename_i hle; cases hp
      have hall : ∀ j, j < y.size → ∃ u x, ((c.drop off).take y.size)[j]? = some x ∧ w.cell? ⟨b, o + off + j, none⟩ = some u ∧ Rep w z th x u := by
        intro j hj
        have hl : off + j < c.length := by omega
        obtain ⟨u, hu, hr⟩ := hc (off + j) c[off + j] (by simp [hl])
        exact ⟨u, c[off + j], by rw [List.getElem?_take_of_lt hj, List.getElem?_drop]; simp [hl], by rw [Nat.add_assoc]; exact hu, hr⟩
      refine ⟨.agg ((List.range y.size).map fun j => (w.cell? ⟨b, o + off + j, none⟩).getD undef).toArray, .agg th _ _ (by simp; omega) (fun i x u hx hu => ?_), fun w' hw' => ?_⟩
      · have hi : i < y.size := by
          have := (List.getElem?_eq_some_iff.1 hx).1; simp at this; omega
        obtain ⟨u', x', h1, h2, h3⟩ := hall i hi
        rw [hx] at h1; cases h1
        simp only [List.getElem?_map, List.getElem?_range hi, Option.map_some, h2, Option.getD_some, Option.some.injEq] at hu
        subst hu; exact h3
      · simp only [loadVar, Sem.run_bind, run_isAgg hT, hk, Result.andThen_ok, if_true, run_sizeOf hT]
        rw [run_loadCells w' _ _ (fun j => (w.cell? ⟨b, o + off + j, none⟩).getD undef) (fun j hj => by
          obtain ⟨u, x, _, h2, _⟩ := hall j hj
          rw [add_none, hw', h2]; rfl)]
        rfl
    · cases hp
  · rename_i hk
    obtain ⟨u, hu, hr⟩ := hc off x hp
    refine ⟨u, hr, fun w' hw' => ?_⟩
    have hk' : y.k.agg = false := by simpa using hk
    simp only [loadVar, Sem.run_bind, run_isAgg hT, hk', Result.andThen_ok, run_load]
    simp [hw', hu]
theorem ext_cell {w' : World} (e : SameK st th z w w') {b : Nat} (hb : Kn st th z b) (o : Nat) : w'.cell? ⟨b, o, none⟩ = w.cell? ⟨b, o, none⟩ := cell_heap (e b hb) o
end
end Go.AM
