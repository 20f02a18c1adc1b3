/- The abstract machine, 10: append. -/
import Derived.Test.YtoecmmpjndcolaaDoorQi
import Derived.Deep.Upon
set_option linter.unusedSimpArgs false
set_option linter.unusedVariables false
namespace Go.AM
open Go
section
variable {P : Program} {E : Env} {N : Nat} {st : AS} {th : List NLoc} {z : Zone} {a : Act} {w : World} {o : List (Nat × Nd)} {n : Nat}
/-- A block is written that nothing known stands in. -/
theorem Mem.other (h : Mem E o n th z w) {w' : World} {b : Nat} (hy : Sys w w') (hs : w'.heap.size = w.heap.size) (hsame : ∀ b', b' ≠ b → w'.heap[b']? = w.heap[b']?) (hz : ∀ t, ¬ z t b) (hn : ∀ i nd L, lk o i = some nd → th[i]? = some L → L.ph = false → L.b ≠ b) (hb : E.own b ∨ E.w0.heap.size ≤ b) : Mem E o n th z w' := by
  have le : Le w z w' z := ⟨fun _ _ h => h, fun t b' hb' => hsame b' (fun e => by subst e; exact hz t hb')⟩
  refine ⟨h.len, fun j x hj => ?_, h.inj, fun t b hb => by rw [hs]; exact h.zlt t b hb, by rw [hs]; exact h.grow, fun b' hb' ho => ?_, h.zin, h.zout, h.zb, fun g cs hg => ?_, h.pre, h.sys.trans hy⟩
  · obtain ⟨M, k1, k2, k3⟩ := h.nds j x hj
    exact ⟨M, k1, by simpa using k2.on le (fun hp => hsame _ (hn j x M hj k1 hp)) [], fun hp => ⟨by rw [hs]; exact (k3 hp).1, (k3 hp).2⟩⟩
  · have : b' ≠ b := fun e => by
      subst e
      rcases hb with hb | hb
      · exact ho hb
      · omega
    exact (hsame b' this).trans (h.frame b' hb' ho)
  · obtain ⟨k1, k2⟩ := h.globs g cs hg
    exact ⟨k1, fun j v hv => (cell_heap (le.same _ _ k1) _).trans (k2 j v hv)⟩
/-- An own thing comes to be known, in a block that nothing known stands in. -/
theorem Mem.know (h : Mem E o n th z w) (L : NLoc) (nd : Nd) (hb : L.ph = false → L.b < w.heap.size ∧ (∀ t, ¬ z t L.b) ∧ (E.own L.b ∨ E.w0.heap.size ≤ L.b)) (hne : ∀ i nd M, lk o i = some nd → th[i]? = some M → M.ph = false → L.ph = false → M.b ≠ L.b) (hn : NdAt w z (th ++ [L]) L nd) : Mem E ((n, nd) :: o) (n + 1) (th ++ [L]) z w := by
  have l : Le w z w z := Le.refl _ _
  have hget : (th ++ [L])[n]? = some L := by rw [← h.len]; simp
  refine ⟨by simp [h.len], fun i y hi => ?_, fun i j x y M M' hi hj hM hM' hp hp' hbb => ?_, h.zlt, h.grow, h.frame, h.zin, h.zout, h.zb, h.globs, fun i L hi => pre_get _ (h.pre i L hi), h.sys⟩
  · simp only [lk] at hi
    by_cases he : n = i
    · subst he
      rw [if_pos rfl] at hi; cases hi
      exact ⟨L, hget, hn, hb⟩
    · rw [if_neg he] at hi
      obtain ⟨M, h1, h2, h3⟩ := h.nds i y hi
      exact ⟨M, pre_get _ h1, h2.on l (fun _ => rfl) [L], h3⟩
  · have old : ∀ i x M, lk ((n, nd) :: o) i = some x → (th ++ [L])[i]? = some M → M.ph = false → (i = n ∧ M = L) ∨ (∃ x, lk o i = some x ∧ th[i]? = some M ∧ (L.ph = false → M.b ≠ L.b)) := by
      intro i x M hi hM hp
      simp only [lk] at hi
      by_cases he : n = i
      · subst he; rw [hget] at hM; cases hM; exact .inl ⟨rfl, rfl⟩
      · rw [if_neg he] at hi
        obtain ⟨M', h1, _, h3⟩ := h.nds i x hi
        have := pre_get [L] h1
        rw [this] at hM; cases hM
        exact .inr ⟨x, hi, h1, hne i x _ hi h1 hp⟩
    rcases old i x M hi hM hp with ⟨rfl, rfl⟩ | ⟨x1, a1, b1, c1⟩ <;> rcases old j y M' hj hM' hp' with ⟨rfl, rfl⟩ | ⟨x2, a2, b2, c2⟩
    · rfl
    · exact (c2 hp hbb.symm).elim
    · exact (c1 hp' hbb).elim
    · exact h.inj i j x1 x2 M M' a1 a2 b1 b2 hp hp' hbb
theorem Sim.know (h : Sim E N st th z a w) (L : NLoc) (nd : Nd) (hb : L.ph = false → L.b < w.heap.size ∧ (∀ t, ¬ z t L.b) ∧ (E.own L.b ∨ E.w0.heap.size ≤ L.b)) (hne : ∀ i nd M, lk st.o i = some nd → th[i]? = some M → M.ph = false → L.ph = false → M.b ≠ L.b) (hn : NdAt w z (th ++ [L]) L nd) :
    Sim E N (putNd st nd) (th ++ [L]) z a w :=
  ⟨h.mem.know L nd hb hne hn, h.size, h.dfs, fun i x hi => let ⟨y, hy, hr⟩ := h.slots i x hi; ⟨y, hy, hr.on (Le.refl _ _) [L]⟩⟩
theorem Sim.other (h : Sim E N st th z a w) {w' : World} {b : Nat} (hy : Sys w w') (hs : w'.heap.size = w.heap.size) (hsame : ∀ b', b' ≠ b → w'.heap[b']? = w.heap[b']?) (hz : ∀ t, ¬ z t b) (hn : ∀ i nd L, lk st.o i = some nd → th[i]? = some L → L.ph = false → L.b ≠ b) (hb : E.own b ∨ E.w0.heap.size ≤ b) : Sim E N st th z a w' :=
  ⟨h.mem.other hy hs hsame hz hn hb, h.size, h.dfs, fun i x hi => let ⟨y, hy, hr⟩ := h.slots i x hi; ⟨y, hy, hr.on' ⟨fun _ _ h => h, fun t b' hb' => hsame b' (fun e => by subst e; exact hz t hb')⟩⟩⟩
theorem src_sound (h : Sim E N st th z a w) {T : TypeId} {y : TY} (hT : tyOf P T = some y) {x : AV} {v : Value} (hr : Rep w z th x v) {k : Nat} (hk : 0 < k) {new : List (List AV)} (hq : srcA st k y.k x = some new) :
    ∃ news : List Value, Src P k T v new.length news w ∧ (∀ e ∈ new, e.length = k) ∧ ∀ (i : Nat) (e : List AV) (j : Nat) (x : AV), new[i]? = some e → e[j]? = some x → ∃ y, news[i * k + j]? = some y ∧ Rep w z [] x y ∧ y.oneCell' = true := by
  unfold srcA at hq
  split at hq
  · rename_i e' hk'
    obtain ⟨ad, c, rfl, hc, hcell⟩ := elemsOf_sound h hr hq
    by_cases hne : new = []
    · subst hne
      refine ⟨[], ?_, by simp, fun i e j x he => by simp at he⟩
      cases ad with
      | none => exact Src.ofNil w (und_slice hT hk') c
      | some ad => exact Src.ofSlice w (und_slice hT hk') ad 0 c [] (by simp) (fun j u hu => by simp at hu) (by simp)
    · rcases hcell with h0 | ⟨b, o, rfl, hlt, _, hcell⟩
      · exact (hne h0).elim
      · have hall : ∀ q, q < new.length * k → ∃ u, w.cell? ⟨b, o + q, none⟩ = some u ∧ u.oneCell' = true := by
          intro q hq
          have hi : q / k < new.length := Nat.div_lt_of_lt_mul (by rw [Nat.mul_comm]; exact hq)
          obtain ⟨h1, h2⟩ := hcell (q / k) new[q / k] (by simp [hi])
          have hj : q % k < new[q / k].length := by rw [h1]; exact Nat.mod_lt _ hk
          obtain ⟨u, hu, _, h3⟩ := h2 (q % k) new[q / k][q % k] (by simp [hj])
          refine ⟨u, ?_, h3⟩
          rw [show o + q / k * k + q % k = o + q by rw [Nat.add_assoc, Nat.mul_comm, Nat.div_add_mod]] at hu
          exact hu
        refine ⟨(List.range (new.length * k)).map fun q => (w.cell? ⟨b, o + q, none⟩).getD undef, ?_, fun e he => ?_, fun i e j x he hx => ?_⟩
        · refine Src.ofSlice w (und_slice hT hk') _ _ c _ (by simp) (fun j u hu => ?_) (fun u hu => ?_)
          · have hj : j < new.length * k := by have := (List.getElem?_eq_some_iff.1 hu).1; simpa using this
            obtain ⟨u', h1, _⟩ := hall j hj
            simp only [List.getElem?_map, List.getElem?_range hj, Option.map_some, Option.some.injEq, h1, Option.getD_some] at hu
            subst hu; rw [add_none]; exact h1
          · obtain ⟨q, hq, rfl⟩ := List.mem_map.1 hu
            obtain ⟨u', h1, h2⟩ := hall q (by simpa using hq)
            simp [h1, h2]
        · obtain ⟨i, hi⟩ := List.mem_iff_getElem?.1 he
          exact (hcell i e hi).1
        · obtain ⟨h1, h2⟩ := hcell i e he
          obtain ⟨u, hu, hr', h3⟩ := h2 j x hx
          refine ⟨u, ?_, hr', h3⟩
          have hi : i < new.length := (List.getElem?_eq_some_iff.1 he).1
          have hj : j < k := by rw [← h1]; exact (List.getElem?_eq_some_iff.1 hx).1
          have : (i + 1) * k ≤ new.length * k := Nat.mul_le_mul_right _ hi
          rw [Nat.add_mul] at this
          rw [List.getElem?_map, List.getElem?_range (by omega)]
          simp [← Nat.add_assoc, hu]
  · rename_i hk'
    split at hq
    · rename_i s
      split at hq
      · rename_i hk1; subst hk1; cases hq
        obtain rfl := hr.r_inv
        have hl : (s.data.toList.map eByte).length = s.size := by rw [List.length_map, Array.length_toList]; rfl
        refine ⟨byteCells s, by rw [hl]; exact Src.ofString w (und_str hT hk') s, fun e he => ?_, fun i e j x he hx => ?_⟩
        · obtain ⟨b, _, rfl⟩ := List.mem_map.1 he; rfl
        · rw [List.getElem?_map, Option.map_eq_some_iff] at he
          obtain ⟨u, hu, rfl⟩ := he
          cases j with
          | succ j => simp [eByte] at hx
          | zero =>
            simp [eByte] at hx; subst hx
            refine ⟨.int .u8 u.toNat, ?_, .r _ _, rfl⟩
            simp [byteCells, hu]
      · cases hq
    · cases hq
  · cases hq
theorem ext_drew_alloc (w : World) (x : Obj) : Ext w (w.drew.alloc x) := ⟨by show w.heap.size ≤ (w.heap.push x).size; simp, fun b hb => by show (w.heap.push x)[b]? = _; simp [Array.getElem?_push, show b ≠ w.heap.size by omega], ⟨rfl, rfl, rfl⟩⟩
theorem new_drew (w : World) (x : Obj) : (w.drew.alloc x).heap[w.heap.size]? = some x := by show (w.heap.push x)[w.heap.size]? = _; simp
theorem grown_le (w : World) (need old : Nat) (e : TypeId) : need ≤ grownCap w need old e := by unfold grownCap Question.cut; exact Nat.le_add_right _ _
theorem zeroCells_length (z : Array Value) (n : Nat) : (Builtin.zeroCells z n).size = n * z.size := by simp [Builtin.zeroCells]
/-- The room that grows: a new row. -/
theorem grow_case (h : Sim E N st th z a w) {e : Nat} {k : Nat} {olds news : List Value} {els0 new : List (List AV)} {cap : Nat} (zc : Array Value) (hz : zc.size = k) (hcap : els0.length + new.length ≤ cap)
    (h0 : ∀ (i : Nat) (e : List AV), els0[i]? = some e → e.length = k ∧ ∀ (j : Nat) (x : AV), e[j]? = some x → ∃ y, olds[i * k + j]? = some y ∧ Rep w z [] x y ∧ y.oneCell' = true) (hl0 : olds.length = els0.length * k) (hl1 : news.length = new.length * k)
    (h1 : ∀ e ∈ new, e.length = k) (h2 : ∀ (i : Nat) (e : List AV) (j : Nat) (x : AV), new[i]? = some e → e[j]? = some x → ∃ y, news[i * k + j]? = some y ∧ Rep w z [] x y ∧ y.oneCell' = true) :
    Sim E N (putNd st (.lst e k (els0 ++ new))) (th ++ [⟨w.heap.size, 0, k, cap, false⟩]) z a (w.drew.alloc (.cells ((olds ++ news).toArray ++ Builtin.zeroCells zc (cap - (els0.length + new.length))) e)) := by
  have ex := ext_drew_alloc w (.cells ((olds ++ news).toArray ++ Builtin.zeroCells zc (cap - (els0.length + new.length))) e)
  have le : Le w z _ z := ex.le (fun _ _ h => h) h.mem.zlt
  refine h.add ex ⟨w.heap.size, 0, k, cap, false⟩ _ (Nat.le_refl _) (by show w.heap.size < (w.heap.push _).size; simp) (.inr ⟨rfl, _, (0, 0), new_drew _ _, fun i _ => by simp, rfl, ?_, by simpa using hcap, fun i el he => ?_⟩)
  · simp only [Nat.zero_add, Array.size_append, List.size_toArray, List.length_append, hl0, hl1, zeroCells_length, hz]
    rw [← Nat.add_mul, ← Nat.add_mul]
    exact Nat.mul_le_mul_right _ (by omega)
  · rw [List.getElem?_append] at he
    have key : el.length = k ∧ ∀ (j : Nat) (x : AV), el[j]? = some x → ∃ y, (olds ++ news)[i * k + j]? = some y ∧ Rep w z [] x y ∧ y.oneCell' = true := by
      split at he
      · rename_i hi
        obtain ⟨g1, g2⟩ := h0 i el he
        refine ⟨g1, fun j x hj => ?_⟩
        obtain ⟨y, hy, hr⟩ := g2 j x hj
        exact ⟨y, by rw [List.getElem?_append_left (List.getElem?_eq_some_iff.1 hy).1]; exact hy, hr⟩
      · rename_i hi
        refine ⟨h1 el (List.mem_of_getElem? he), fun j x hj => ?_⟩
        obtain ⟨y, hy, hr⟩ := h2 _ el j x he hj
        refine ⟨y, ?_, hr⟩
        have : els0.length * k ≤ i * k := Nat.mul_le_mul_right _ (by omega)
        rw [List.getElem?_append_right (by rw [hl0]; omega), hl0, show i * k + j - els0.length * k = (i - els0.length) * k + j by rw [Nat.sub_mul]; omega]
        exact hy
    obtain ⟨g1, g2⟩ := key
    refine ⟨g1, fun j x hj => ?_⟩
    obtain ⟨y, hy, hr, ho⟩ := g2 j x hj
    refine ⟨y, ?_, hr.on' le, ho⟩
    simp only [Nat.zero_add]
    rw [Array.getElem?_append_left (by simpa using (List.getElem?_eq_some_iff.1 hy).1)]
    simpa using hy
/-- Onto nothing. -/
theorem nil_case (h : Sim E N st th z a w) {T T' e t : TypeId} {i : TypeInfo} {v0 v2 : Value} {sz bytes : Nat} {new : List (List AV)} {news : List Value} (hu : P.underlying T = some (.slice e)) (hi1 : P.info? e = some i) (hv0 : i.zero = some v0) (hsz : i.size = sz) (hby' : i.bytes = bytes) (hz0 : v0.cells.size = sz)
    (hby : new.length * bytes ≤ 140737488355328) (h63 : new.length ≤ 9223372036854775807) (hs : Src P sz T' v2 new.length news w) (hel : ∀ e ∈ new, e.length = sz)
    (hcell : ∀ (i : Nat) (e : List AV) (j : Nat) (x : AV), new[i]? = some e → e[j]? = some x → ∃ y, news[i * sz + j]? = some y ∧ Rep w z [] x y ∧ y.oneCell' = true) :
    ∃ v L w', (Builtin.append_ #[T, T'] t #[.slice none 0 0, v2]).run P w = .ok v w' ∧ Sim E N (putNd st (.lst e sz new)) (th ++ [L]) z a w' ∧ Rep w' z (th ++ [L]) (.s st.n 0 new.length) v ∧ Ext w w' := by
  by_cases hn : new = []
  · subst hn
    have hnl : news = [] := by have := hs.newsLen; simpa using this
    subst hnl
    exact ⟨.slice none 0 0, _, w, run_append_nothing w T T' t e i hu hi1 none 0 0 (Nat.le_refl _) v2 (by rw [hsz]; exact hs), h.know ⟨0, 0, 0, 0, true⟩ _ (fun hp => by cases hp) (fun _ _ _ _ _ _ hp => by cases hp) (.inl ⟨rfl, rfl⟩), .sn _ _ 0 ⟨0, 0, 0, 0, true⟩ (h.get_new _) rfl, Ext.refl w⟩
  · have hpos : 0 < new.length := List.length_pos_iff.2 hn
    have hrun := run_append_grow_src w T T' t e i v0 hu hi1 hv0 none 0 0 [] (run_firstCells_none _ _ _ _ _) v2 new.length news (by rw [hsz]; exact hs) (by omega) (by omega) (by rw [hby']; exact growslice_fits (by omega) (by simpa using hby))
    have hS := grow_case h (e := e) (k := sz) (olds := []) (news := news) (els0 := []) (new := new) (cap := grownCap w (0 + new.length) 0 e) v0.cells hz0 (by simpa using grown_le w (0 + new.length) 0 e) (fun i e he => by simp at he) (by simp) hs.newsLen hel hcell
    simp only [List.nil_append, List.length_nil, Nat.zero_add] at hS hrun
    have := grown_le w new.length 0 e
    exact ⟨_, _, _, hrun, hS, .s _ _ 0 _ _ 0 ⟨w.heap.size, 0, sz, grownCap w new.length 0 e, false⟩ (h.get_new _) rfl this (by simp) (fun _ => by simp), ext_drew_alloc _ _⟩
theorem eff_append (h : Sim E N st th z a w) {args : Array Operand} {ats : Array TypeId} {d : Option Nat} {t : TypeId} {pos : String} {aft : Array Edge} {g : Option (Nat × Bool)} {k : AV → AS → Prop} (hk : eff P E.G st (.call { callee := .builtin .append, args := args, argTypes := ats }) k) :
    Eff P E N ⟨d, .call { callee := .builtin .append, args := args, argTypes := ats }, t, pos, aft, g⟩ a w th (tch st E.G (.call { callee := .builtin .append, args := args, argTypes := ats })) st.m k false := by
  obtain ⟨args⟩ := args
  obtain ⟨ats⟩ := ats
  simp only [eff] at hk
  split at hk
  · rename_i b x T T' he
    obtain ⟨v1, r1, hargs, hr1, hrest⟩ := (evs_sound h he).head
    obtain ⟨v2, r2, rfl, hr2, hrest2⟩ := hrest.head
    obtain rfl := hrest2.of_nil
    have hexec : ∀ (v : Value) (w' : World), (Builtin.append_ #[T, T'] t #[v1, v2]).run P w = .ok v w' → (execOp a.eval ⟨d, .call { callee := .builtin .append, args := args.toArray, argTypes := #[T, T'] }, t, pos, aft, g⟩).run P w = .ok (.value v) w' := by
      intro v w' hv
      simp only [execOp, resolve, invoke, builtin, Sem.run_bind, Sem.run_pure, Result.andThen_ok]
      have he2 : (Array.map a.eval args.toArray) = #[v1, v2] := by simpa using hargs
      rw [he2, hv]; rfl
    split at hk
    · rename_i e s1 b1 z1 y' hT hT'
      split at hk
      · rename_i kk sz bytes zs hTe
        obtain ⟨i, dd, hi1, hi2, hi3⟩ := tyOf_spec hTe
        simp only [TY.mk.injEq] at hi3
        obtain ⟨_, hisz, hiby, hiz⟩ := hi3
        obtain ⟨v0, hv0, hv0'⟩ := Option.map_eq_some_iff.1 hiz.symm
        have hu := und_slice hT rfl
        split at hk
        · rename_i new hnew
          split at hk
          · obtain rfl := hr1.r_inv
            obtain ⟨⟨hzl, hsz, hby, h63⟩, hk⟩ := hk
            obtain ⟨news, hs, hel, hcell⟩ := src_sound h hT' hr2 hsz hnew
            have hz0 : v0.cells.size = sz := by rw [← hzl, ← hv0']; simp
            obtain ⟨v, L, w', g1, g2, g3, g4⟩ := nil_case h (t := t) hu hi1 hv0 hisz.symm hiby.symm hz0 hby h63 hs hel hcell
            exact ⟨v, _, _, _, z, w', .inl (hexec _ _ g1), hk, g2, g3, rfl, (fun h => by cases h), later_app _ _, g4.t⟩
          · rename_i n lo len
            have hts : tch st E.G (.call { callee := .builtin .append, args := args.toArray, argTypes := [T, T'].toArray }) = [n] := by simp only [tch, he]
            split at hk
            · rename_i T2 k' els ho
              obtain ⟨⟨hT2, hzl, hkk, hsz, hle, hby, h63⟩, hk⟩ := hk
              have hT2 := hT2.symm
              subst hT2
              obtain ⟨news, hs, hel, hcell⟩ := src_sound h hT' hr2 hsz hnew
              have hz0 : v0.cells.size = sz := by rw [← hzl, ← hv0']; simp
              have hl0 : ((els.drop lo).take len).length = len := by simp; omega
              have hsrc0 : srcA st sz (TK.slice e) (.s n lo len) = some ((els.drop lo).take len) := by
                simp only [srcA, elemsOf, ho]
                rw [if_pos ⟨hkk, hle⟩]
              obtain ⟨olds, hs0, hel0, hcell0⟩ := src_sound h hT hr1 hsz hsrc0
              obtain ⟨L, hL, hcase⟩ := hr1.s_inv
              rw [hl0] at hs0
              obtain ⟨L', q1, hnd, g8⟩ := h.mem.nds _ _ ho
              rw [hL] at q1; cases q1
              have hsub : Sim E N { st with o := rm st.o n } th z a w := h.sub rfl (fun i x hi => by
                rw [lk_rm] at hi
                split at hi
                · cases hi
                · exact hi) (fun _ _ h => h)
              have hsize : i.size = sz := hisz.symm
              rcases hcase with ⟨hph, hl, rfl⟩ | ⟨hph, c, o, hv1, hlc, hcap, hox⟩
              · subst hl
                obtain ⟨v, L2, w', q1, q2, q3, q4⟩ := nil_case hsub (t := t) hu hi1 hv0 hsize hiby.symm hz0 (by simpa using hby) (by simpa using h63) hs hel hcell
                refine ⟨v, _, _, th ++ [L2], z, w', .inl (hexec _ _ q1), hk, ?_, ?_, rfl, (fun h => by cases h), later_app _ _, q4.t⟩
                · simpa using q2
                · simpa using q3
              subst hv1
              rcases hnd with ⟨hp', _⟩ | ⟨_, cells, fr, g2, g3, g4, g5, g6, g7⟩
              · rw [hph] at hp'; cases hp'
              obtain ⟨g8, g9, g10⟩ := g8 hph
              have hne : ∀ i nd M, lk (rm st.o n) i = some nd → th[i]? = some M → M.ph = false → M.b ≠ L.b := by
                intro i nd M hi hM hp hb
                rw [lk_rm] at hi
                split at hi
                · cases hi
                · rename_i hni; exact hni (h.mem.inj n i _ _ L M ho hi hL hM hph hp hb.symm)
              by_cases hroom : len + new.length ≤ c
              · by_cases hc0 : c = 0
                · have hl : len = 0 := by omega
                  have hnn : new = [] := List.length_eq_zero_iff.1 (by omega)
                  subst hnn
                  have hnl : news = [] := by have := hs.newsLen; simpa using this
                  subst hnl
                  refine ⟨.slice (some ⟨L.b, o, none⟩) len c, _, _, _, z, w, .inl (hexec _ _ (run_append_nothing w T T' t e i hu hi1 _ len c hlc v2 (by rw [hsize]; exact hs))), hk, hsub.know ⟨L.b, 0, sz, 0, false⟩ _ (fun _ => ⟨g8, g9, g10⟩) (fun i nd M hi hM hp _ => hne i nd M hi hM hp) ?_, ?_, rfl, (fun h => by cases h), later_app _ _, (Ext.refl w).t⟩
                  · subst hl
                    exact .inr ⟨rfl, cells, fr, g2, g3, rfl, by simp, by simp, fun i e he => by simp at he⟩
                  · exact .s _ _ 0 _ _ o ⟨L.b, 0, sz, 0, false⟩ (hsub.get_new _) rfl (by simp; omega) (by simp; omega) (fun hh => by omega)
                · have ho' := hox (by omega)
                  subst ho'
                  have hbound : L.o + lo * L.k + c * L.k ≤ cells.size := by
                    have : (lo + c) * L.k ≤ L.cap * L.k := Nat.mul_le_mul_right _ hcap
                    rw [Nat.add_mul] at this; omega
                  have hk2 : L.k = sz := g4.trans hkk
                  have hnl : news.length = new.length * sz := hs.newsLen
                  have hin : L.o + lo * L.k + len * sz + news.length ≤ cells.size := by
                    have : (len + new.length) * sz ≤ c * sz := Nat.mul_le_mul_right _ hroom
                    rw [Nat.add_mul] at this; rw [hk2] at hbound ⊢; omega
                  have hrun := run_append_room_src w T T' t e i hu hi1 L.b (L.o + lo * L.k) len c v2 new.length news (by rw [hsize]; exact hs) hroom (fun j hj => by
                    rw [cell_of g2, hsize]; simp [show L.o + lo * L.k + len * sz + j < cells.size by omega]) (fun j hj => by
                    rw [hsize]; exact frozen_of g2 g3 (by omega))
                  rw [hsize] at hrun
                  obtain ⟨q1, q2, q3⟩ := heap_setCells L.b news (L.o + lo * L.k + len * sz) w cells e fr g2
                  have le : Le w z (w.setCells L.b (L.o + lo * L.k + len * sz) news) z := ⟨fun _ _ h => h, fun t b hb => q2 b (fun e => by subst e; exact g9 t hb)⟩
                  have hoth := hsub.other (sys_setCells _ _ _ _) q1 q2 g9 hne g10
                  refine ⟨_, _, _, _, z, _, .inl (hexec _ _ hrun), hk, hoth.know ⟨L.b, L.o + lo * L.k, sz, c, false⟩ _ (fun _ => ⟨by rw [q1]; exact g8, g9, g10⟩) (fun i nd M hi hM hp _ => hne i nd M hi hM hp) ?_, ?_, rfl, (fun h => by cases h), later_app _ _, ⟨Nat.le_of_eq q1.symm, fun b _ hne => q2 b (fun e => hne n (by rw [hts]; simp) L hL hph e.symm), sys_setCells _ _ _ _⟩⟩
                  · refine .inr ⟨rfl, _, fr, q3, fun i hi => by rw [setMany_size] at hi; exact g3 i hi, rfl, by rw [setMany_size]; show L.o + lo * L.k + c * sz ≤ cells.size; rw [← hk2]; exact hbound, by rw [List.length_append, hl0]; exact hroom, fun i el hi => ?_⟩
                    rw [List.getElem?_append, hl0] at hi
                    simp only
                    have hidx : ∀ j, (setMany cells (L.o + lo * L.k + len * sz) news)[L.o + lo * L.k + i * sz + j]? = if len ≤ i ∧ (i - len) * sz + j < news.length then news[(i - len) * sz + j]? else if len ≤ i then cells[L.o + lo * L.k + i * sz + j]? else (setMany cells (L.o + lo * L.k + len * sz) news)[L.o + lo * L.k + i * sz + j]? := by
                      intro j
                      split
                      · rename_i hh
                        have : len * sz ≤ i * sz := Nat.mul_le_mul_right _ hh.1
                        have e1 : (i - len) * sz = i * sz - len * sz := Nat.sub_mul _ _ _
                        rw [setMany_get _ _ _ hin, if_pos (by omega)]
                        congr 1; omega
                      · split
                        · rename_i hh h2
                          have : len * sz ≤ i * sz := Nat.mul_le_mul_right _ h2
                          have e1 : (i - len) * sz = i * sz - len * sz := Nat.sub_mul _ _ _
                          rw [setMany_get _ _ _ hin, if_neg (by omega)]
                        · rfl
                    split at hi
                    · rename_i hlt
                      rw [List.getElem?_take_of_lt hlt, List.getElem?_drop] at hi
                      obtain ⟨p1, p2⟩ := g7 _ _ hi
                      refine ⟨p1.trans hk2, fun j x hj => ?_⟩
                      obtain ⟨u, hu, hru, h1u⟩ := p2 j x hj
                      have hjk : j < sz := by rw [← hk2, ← p1]; exact (List.getElem?_eq_some_iff.1 hj).1
                      refine ⟨u, ?_, hru.on' le, h1u⟩
                      have : (i + 1) * sz ≤ len * sz := Nat.mul_le_mul_right _ hlt
                      rw [Nat.add_mul] at this
                      rw [setMany_get _ _ _ hin, if_neg (by omega), show L.o + lo * L.k + i * sz + j = L.o + (lo + i) * L.k + j by rw [Nat.add_mul, hk2]; omega]
                      exact hu
                    · rename_i hge
                      refine ⟨hel el (List.mem_of_getElem? hi), fun j x hj => ?_⟩
                      obtain ⟨u, hu, hru, h1u⟩ := hcell _ el j x hi hj
                      refine ⟨u, ?_, hru.on' le, h1u⟩
                      rw [hidx, if_pos ⟨by omega, (List.getElem?_eq_some_iff.1 hu).1⟩]
                      exact hu
                  · exact .s _ _ 0 _ _ _ ⟨L.b, L.o + lo * L.k, sz, c, false⟩ (hoth.get_new _) rfl hroom (by simp) (fun _ => by simp)
              · have hrun := run_append_grow_src w T T' t e i v0 hu hi1 hv0 (some ⟨L.b, o, none⟩) len c olds (by rw [hsize]; exact hs0.cellsD) v2 new.length news (by rw [hsize]; exact hs) (by omega) (by omega) (by rw [← hiby]; exact growslice_fits (by omega) hby)
                have hS := grow_case hsub (e := e) (k := sz) (olds := olds) (news := news) (els0 := (els.drop lo).take len) (new := new) (cap := grownCap w (len + new.length) c e) v0.cells hz0 (by rw [hl0]; exact grown_le w _ _ _) (fun i el he => ⟨hel0 el (List.mem_of_getElem? he), fun j x hj => hcell0 i el j x he hj⟩) (by rw [hl0]; exact hs0.newsLen) hs.newsLen hel hcell
                rw [hl0] at hS
                refine ⟨_, _, _, _, z, _, .inl (hexec _ _ hrun), hk, hS, ?_, rfl, (fun h => by cases h), later_app _ _, (ext_drew_alloc _ _).t⟩
                exact .s _ _ 0 _ _ 0 _ (hsub.get_new _) rfl (grown_le w _ _ _) (by simp) (fun _ => by simp)
            · exact hk.elim
          · exact hk.elim
        · exact hk.elim
      · exact hk.elim
    · exact hk.elim
  · exact hk.elim
end
end Go.AM
