/- The abstract machine, 9: slice literals, stores, append, make. -/
import Derived.Test.YtoecmmpjndcolaaDoorQh
set_option linter.unusedSimpArgs false
set_option linter.unusedVariables false
namespace Go.AM
open Go
section
variable {P : Program} {E : Env} {N : Nat} {st : AS} {th : List NLoc} {z : Zone} {a : Act} {w : World}
/-- A new list, out of rows of values. -/
theorem NdAt.of_rows {L : NLoc} {T : TypeId} {k : Nat} {els : List (List AV)} {cs : List (List Value)} {cells : Array Value} {rest : List Value} (hb : w.heap[L.b]? = some (.cells cells T (0, 0))) (hp : L.ph = false) (ho : L.o = 0) (hk : L.k = k) (hc : cells.toList = cs.flatten ++ rest) (hcap : L.cap * k ≤ cells.size)
    (hlen : cs.length = els.length) (hle : els.length ≤ L.cap) (h1 : ∀ l ∈ cs, l.length = k) (h2 : ∀ l ∈ els, l.length = k) (h3 : ∀ (j : Nat) (e : List AV) (d : List Value), els[j]? = some e → cs[j]? = some d → Reps w z [] e d ∧ ∀ u ∈ d, u.oneCell' = true) : NdAt w z th L (.lst T k els) := by
  refine .inr ⟨hp, cells, (0, 0), hb, fun i _ => by simp, hk, by rw [ho, hk]; omega, hle, fun i e he => ⟨by rw [hk]; exact h2 e (List.mem_of_getElem? he), fun j x hj => ?_⟩⟩
  have hi : i < cs.length := by rw [hlen]; exact (List.getElem?_eq_some_iff.1 he).1
  have hd : cs[i]? = some cs[i] := by simp [hi]
  obtain ⟨hr, h4⟩ := h3 i e _ he hd
  obtain ⟨y, hy, hr'⟩ := hr.get hj
  refine ⟨y, ?_, hr', h4 y (List.mem_of_getElem? hy)⟩
  have := flatten_get h1 hd hy
  rw [← Array.getElem?_toList, hc, ho, hk, Nat.zero_add, List.getElem?_append_left (List.getElem?_eq_some_iff.1 this).1]
  exact this
theorem eff_buildSlice (h : Sim E N st th z a w) {T : TypeId} {len : Nat} {parts : Array (Nat × Operand)} {d : Option Nat} {t : TypeId} {pos : String} {aft : Array Edge} {g : Option (Nat × Bool)} {k : AV → AS → Prop} (hk : eff P E.G st (.buildSlice T len parts) k) :
    Eff P E N ⟨d, .buildSlice T len parts, t, pos, aft, g⟩ a w th [] st.m k true := by
  simp only [eff] at hk
  split at hk
  · rename_i e s1 b1 z1 c hT he
    split at hk
    · rename_i sz by' zs c' st' hTe hf
      split at hk
      · rename_i els hels
        obtain ⟨⟨rfl, hle⟩, hk⟩ := hk
        obtain ⟨z', hz, hS, hr, hm, hn⟩ := frzL_sound c h (evs_sound h he) hf
        obtain ⟨v0, hz0⟩ := run_zero_any hTe
        obtain ⟨i, dd, hi1, hi2, hi3⟩ := tyOf_spec hTe
        simp only [TY.mk.injEq] at hi3
        have hsz0 : (zeroValue e).run P w = .ok v0 w := (hz0 w).1
        let zeros : Array Value := (Array.range (els.length * sz)).map ((if els.length * sz = 0 then #[] else v0.cells)[· % (if els.length * sz = 0 then #[] else v0.cells).size]!)
        obtain ⟨us, cs, g1, g2, g3, g4, g5, g6⟩ := elsL_sound (parts.toList.map (·.1)) c' 0 _ els zeros hels hr (by simp [zeros])
        simp only [Nat.zero_mul, List.take_zero, List.nil_append, Nat.zero_add] at g2
        have hzip : (parts.toList.map (·.1)).zip ((parts.toList.map (·.2)).map a.eval) = parts.toList.map fun p => (p.1, a.eval p.2) := by
          rw [List.map_map, List.zip_map']; rfl
        rw [hzip] at g1
        have hd : zeros.toList.drop (els.length * sz) = [] := List.drop_of_length_le (by simp [zeros])
        rw [hd] at g2
        have hus : us.size = els.length * sz := by
          have : us.toList.length = cs.length * sz := by
            rw [g2, List.append_nil]
            clear g1 g2 g3 g6
            induction cs with
            | nil => simp
            | cons l r ih => rw [List.flatten_cons, List.length_append, g4 l (by simp), ih (fun l hl => g4 l (by simp [hl])), List.length_cons, Nat.add_mul]; omega
          rw [g3] at this; simpa using this
        have ex := ext_alloc w (.cells us e)
        have le : Le w z' (w.alloc (.cells us e)) z' := ex.le (fun _ _ h => h) hS.mem.zlt
        have hS' := hS.add ex ⟨w.heap.size, 0, sz, els.length, false⟩ (.lst e sz els) (Nat.le_refl _) (by simp)
          (NdAt.of_rows (cs := cs) (cells := us) (rest := []) (new_heap _ _) rfl rfl rfl g2 (by simp [hus]) g3 (Nat.le_refl _) g4 g5 (fun j e d he hd => ⟨by simpa using (g6 j e d he hd).1.on le [], (g6 j e d he hd).2⟩))
        refine ⟨.slice (some ⟨w.heap.size, 0, none⟩) els.length els.length, _, _, _, z', _, .inl ?_, hk, hS', .s _ _ 0 _ _ 0 _ (hS.get_new _) rfl (Nat.le_refl _) (by simp) (fun _ => by simp), hm, fun _ => ex, later_app _ _, ex.t⟩
        have hund := run_underlying (w := w) (und_slice hT rfl)
        have hsz := run_sizeOf (w := w) hTe
        simp only [execOp, Instr.buildSlice, Sem.run_bind, hund, hsz, Result.andThen_ok]
        rw [if_neg (by omega)]
        have hfill : ∀ C : Array Value, C = zeros → Instr.fill (fun i => some (i * sz, sz)) C (parts.map fun p => (p.1, a.eval p.2)).toList = some us := by
          intro C hC; subst hC
          simpa using g1
        by_cases h0 : els.length * sz = 0
        · simp only [h0, if_true, Sem.run_bind, Sem.run_pure, Result.andThen_ok]
          have := hfill ((Array.range 0).map ((#[] : Array Value)[· % (#[] : Array Value).size]!)) (by simp [zeros, h0])
          simp only [this]
          rfl
        · simp only [h0, if_false, Sem.run_bind, hsz0, Sem.run_pure, Result.andThen_ok]
          have := hfill ((Array.range (els.length * sz)).map (v0.cells[· % v0.cells.size]!)) (by simp [zeros, h0])
          simp only [this]
          rfl
      · exact hk.elim
    · exact hk.elim
  · exact hk.elim
theorem setMany_list (vs : List Value) (o : Nat) (cs : Array Value) (h : o + vs.length ≤ cs.size) : (setMany cs o vs).toList = cs.toList.take o ++ vs ++ cs.toList.drop (o + vs.length) := by
  apply List.ext_getElem?
  intro i
  rw [Array.getElem?_toList, setMany_get vs o cs h]
  have hl : (cs.toList.take o).length = o := by rw [List.length_take]; simp; omega
  by_cases h1 : i < o
  · rw [if_neg (by omega), List.append_assoc, List.getElem?_append_left (by omega), List.getElem?_take_of_lt h1, Array.getElem?_toList]
  · by_cases h2 : i < o + vs.length
    · rw [if_pos (by omega), List.append_assoc, List.getElem?_append_right (by omega), hl, List.getElem?_append_left (by omega)]
    · rw [if_neg (by omega), List.getElem?_append_right (by simp [hl]; omega), List.getElem?_drop]
      simp only [List.length_append, hl, Array.getElem?_toList]
      congr 1; omega
theorem splice_length {cs new : List AV} {off : Nat} (h : off + new.length ≤ cs.length) : (splice cs off new).length = cs.length := by
  unfold splice; simp; omega
theorem run_storeAt {T : TypeId} {y : TY} (hT : tyOf P T = some y) {b o : Nat} {v : Value} (hs : v.cells.size = y.size) {cells : Array Value} {S : TypeId} {fr : Nat × Nat} (hb : w.heap[b]? = some (.cells cells S fr)) (hf : okFr cells fr) (ho : o + y.size ≤ cells.size) (h1 : ∀ u ∈ v.cells.toList, u.oneCell' = true) :
    (Instr.storeAt T (.pointer (some ⟨b, o, none⟩)) v).run P w = .ok () (w.setCells b o v.cells.toList) := by
  have := run_storeCells_cells (P := P) b o v.cells.toList 0 w (fun j hj => by
    simp at hj
    rw [cell_of hb]; simp [show o + j < cells.size by omega]) (fun j hj => by
    simp at hj
    exact frozen_of hb hf (by omega)) h1
  simp only [Instr.storeAt, Instr.sureAddr, storeVar, Sem.run_bind, Sem.run_pure, Result.andThen_ok, run_sizeOf hT]
  rw [if_neg (by omega)]
  simpa using this
theorem one_cells {x : AV} {v : Value} (hr : Rep w z th x v) (ho : x.okPart = true) (h : x.cells.all AV.cell1 = true) : ∀ u ∈ v.cells.toList, u.oneCell' = true := by
  intro u hu
  have hc := cells_sound hr ho
  obtain ⟨i, hi⟩ := List.mem_iff_getElem?.1 hu
  have hi' : i < x.cells.length := by rw [← hc.1]; exact (List.getElem?_eq_some_iff.1 hi).1
  exact one_of_cell1 (hc.2 i x.cells[i] u (by simp [hi']) hi) (all_get h (show x.cells[i]? = some x.cells[i] by simp [hi']))
theorem eff_store (h : Sim E N st th z a w) {T : TypeId} {X V : Operand} {d : Option Nat} {t : TypeId} {pos : String} {aft : Array Edge} {g : Option (Nat × Bool)} {k : AV → AS → Prop} (hk : eff P E.G st (.store T X V) k) :
    Eff P E N ⟨d, .store T X V, t, pos, aft, g⟩ a w th (tch st E.G (.store T X V)) st.m k false := by
  simp only [eff] at hk
  split at hk
  · rename_i y n i off v hT hx hv
    obtain ⟨L, hL, hp⟩ := (ev_sound h hx).p_inv
    have hr := ev_sound h hv
    have hts : tch st E.G (.store T X V) = [n] := by simp only [tch, hx]
    rw [hts]
    split at hk
    · rename_i T' c ho
      split at hk
      · rename_i hc; obtain ⟨rfl, h2, h3, h4, h5⟩ := hc
        obtain ⟨L', k1, ⟨hph, cells, fr, k2, k3, k4, k5⟩, k6⟩ := h.mem.nds _ _ ho
        rw [hL] at k1; cases k1
        obtain ⟨k6, k7, k8⟩ := k6 hph
        have hcs := cells_sound hr h4
        have hsz : (a.eval V).cells.size = y.size := by have := hcs.1; rw [h2] at this; simpa using this
        have hcl : cells.size = c.length := by simpa using k5.1
        have hone := one_cells hr h4 h5
        obtain ⟨q1, q2, q3⟩ := heap_setCells L.b (a.eval V).cells.toList off w cells T' fr k2
        have le : Le w z (w.setCells L.b off (a.eval V).cells.toList) z := ⟨fun _ _ h => h, fun t b hb => q2 b (fun e => by subst e; exact k7 t hb)⟩
        refine ⟨undef, .r undef, _, th, z, w.setCells L.b off (a.eval V).cells.toList, .inr ⟨?_, rfl⟩, hk, h.write ho hL hph (sys_setCells _ _ _ _) q1 q2 ?_, .r _ _, rfl, (fun h => by cases h), Later.refl _, ⟨Nat.le_of_eq q1.symm, fun b _ hne => q2 b (fun e => hne n (by simp) L hL hph e.symm), sys_setCells _ _ _ _⟩⟩
        · have := run_storeAt (P := P) hT (b := L.b) (o := off) hsz k2 k3 (by omega) hone
          simp only [execOp, hp, k4, Nat.zero_mul, Nat.zero_add, Sem.run_bind, this, Result.andThen_ok]
          rfl
        · refine ⟨hph, _, fr, q3, fun i hi => by rw [setMany_size] at hi; exact k3 i hi, k4, ?_⟩
          rw [setMany_list _ _ _ (by simp [hsz]; omega)]
          have := (Reps.splice (off := off) k5 hcs).on le []
          simpa using this
      · exact hk.elim
    · rename_i T' k' els ho
      split at hk
      · rename_i v' st' hf
        obtain ⟨z', hz, hS, hr', hm, hn⟩ := frz_sound v h hr hf
        split at hk
        · rename_i T2 k2' els2 e ho' he
          obtain ⟨⟨h2, h3, h4, h5⟩, hk⟩ := hk
          obtain ⟨L', k1, k2, k6⟩ := hS.mem.nds _ _ ho'
          rw [hL] at k1; cases k1
          obtain ⟨_, g1, hnd, _⟩ := h.mem.nds _ _ ho
          rw [hL] at g1; cases g1
          rcases hnd with ⟨_, hn0⟩ | ⟨hph, cells, fr, g2, g3, g4, g5, g6, g7⟩
          · subst hn0; simp at he
          obtain ⟨k6, k7, k8⟩ := k6 hph
          have hcs := cells_sound hr' h4
          have hsz : (a.eval V).cells.size = y.size := by have := hcs.1; rw [h2] at this; simpa using this
          have hone := one_cells hr' h4 h5
          have hi : i < els.length := (List.getElem?_eq_some_iff.1 he).1
          have hel := (g7 i e he).1
          have hbound : L.o + i * L.k + L.k ≤ cells.size := by
            have : (i + 1) * L.k ≤ L.cap * L.k := Nat.mul_le_mul_right _ (by omega)
            rw [Nat.add_mul] at this
            omega
          obtain ⟨q1, q2, q3⟩ := heap_setCells L.b (a.eval V).cells.toList (L.o + i * L.k + off) w cells T' fr g2
          have le : Le w z' (w.setCells L.b (L.o + i * L.k + off) (a.eval V).cells.toList) z' := ⟨fun _ _ h => h, fun t b hb => q2 b (fun e => by subst e; exact k7 t hb)⟩
          have le0 : Le w z w z' := ⟨hz, fun _ _ _ => rfl⟩
          refine ⟨undef, .r undef, _, th, z', w.setCells L.b (L.o + i * L.k + off) (a.eval V).cells.toList, .inr ⟨?_, rfl⟩, hk, hS.write ho' hL hph (sys_setCells _ _ _ _) q1 q2 ?_, .r _ _, hm, (fun h => by cases h), Later.refl _, ⟨Nat.le_of_eq q1.symm, fun b _ hne => q2 b (fun e => hne n (by simp) L hL hph e.symm), sys_setCells _ _ _ _⟩⟩
          · have := run_storeAt (P := P) hT (b := L.b) (o := L.o + i * L.k + off) hsz g2 g3 (by omega) hone
            simp only [execOp, hp, Sem.run_bind, this, Result.andThen_ok]
            rfl
          · have hvl : (a.eval V).cells.toList.length = y.size := by simpa using hsz
            refine .inr ⟨hph, _, fr, q3, fun i hi => by rw [setMany_size] at hi; exact g3 i hi, g4, by rw [setMany_size]; exact g5, by simpa using g6, fun i' e' he' => ?_⟩
            by_cases hii : i = i'
            · subst hii
              rw [List.getElem?_set_self hi] at he'
              cases he'
              have hl : (splice e off v'.cells).length = L.k := by rw [splice_length (by rw [h2]; omega)]; exact hel
              refine ⟨hl, fun j x hj => ?_⟩
              have hjk : j < L.k := by rw [← hl]; exact (List.getElem?_eq_some_iff.1 hj).1
              rw [setMany_get _ _ _ (by rw [hvl]; omega)]
              by_cases hin : off ≤ j ∧ j < off + y.size
              · rw [if_pos (by rw [hvl]; omega)]
                have hjx : v'.cells[j - off]? = some x := by
                  unfold splice at hj
                  rw [List.append_assoc, List.getElem?_append_right (by rw [List.length_take]; omega), List.length_take, show min off e.length = off by omega, List.getElem?_append_left (by rw [h2]; omega)] at hj
                  exact hj
                obtain ⟨u, hu, hru⟩ := hcs.get hjx
                refine ⟨u, ?_, by simpa using hru.on le [], hone u (List.mem_of_getElem? hu)⟩
                rw [show L.o + i * L.k + j - (L.o + i * L.k + off) = j - off by omega]; exact hu
              · rw [if_neg (by rw [hvl]; omega)]
                have hjx : e[j]? = some x := by
                  unfold splice at hj
                  by_cases hlt : j < off
                  · rw [List.append_assoc, List.getElem?_append_left (by rw [List.length_take]; omega), List.getElem?_take_of_lt hlt] at hj; exact hj
                  · rw [List.getElem?_append_right (by rw [List.length_append, List.length_take, h2]; omega), List.getElem?_drop, List.length_append, List.length_take, h2] at hj
                    rw [← hj]; congr 1; omega
                obtain ⟨u, hu, hru, h1u⟩ := (g7 i e he).2 j x hjx
                exact ⟨u, hu, by simpa using (hru.on' le0).on le [], h1u⟩
            · rw [List.getElem?_set_ne hii] at he'
              obtain ⟨hl, hc⟩ := g7 i' e' he'
              refine ⟨hl, fun j x hj => ?_⟩
              have hjk : j < L.k := by rw [← hl]; exact (List.getElem?_eq_some_iff.1 hj).1
              obtain ⟨u, hu, hru, h1u⟩ := hc j x hj
              refine ⟨u, ?_, by simpa using (hru.on' le0).on le [], h1u⟩
              rw [setMany_get _ _ _ (by rw [hvl]; omega), if_neg]
              · exact hu
              · rw [hvl]
                rintro ⟨a1, a2⟩
                rcases Nat.lt_or_ge i i' with hlt | hge
                · have : (i + 1) * L.k ≤ i' * L.k := Nat.mul_le_mul_right _ hlt
                  rw [Nat.add_mul] at this; omega
                · have : (i' + 1) * L.k ≤ i * L.k := Nat.mul_le_mul_right _ (by omega)
                  rw [Nat.add_mul] at this; omega
        · exact hk.elim
      · exact hk.elim
    · exact hk.elim
  · exact hk.elim
theorem eff_makeSlice (h : Sim E N st th z a w) {T : TypeId} {X V : Operand} {d : Option Nat} {t : TypeId} {pos : String} {aft : Array Edge} {g : Option (Nat × Bool)} {k : AV → AS → Prop} (hk : eff P E.G st (.makeSlice T X V) k) :
    Eff P E N ⟨d, .makeSlice T X V, t, pos, aft, g⟩ a w th [] st.m k true := by
  simp only [eff] at hk
  split at hk
  · rename_i e s1 b1 z1 k1 n k2 n' hT hx hv
    split at hk
    · rename_i kk sz bytes zs hTe
      obtain ⟨⟨rfl, h0, h63, hb, hsz, hzl, hz1⟩, hk⟩ := hk
      have e1 := (ev_sound h hx).r_inv
      have e2 := (ev_sound h hv).r_inv
      obtain ⟨v0, hz0⟩ := run_zero_any hTe
      obtain ⟨i, dd, hi1, hi2, hi3⟩ := tyOf_spec hTe
      simp only [TY.mk.injEq] at hi3
      obtain ⟨row, hrow⟩ : ∃ row : Array Value, row = (Array.range (n.toNat * sz)).map ((if n.toNat * sz = 0 then #[] else v0.cells)[· % (if n.toNat * sz = 0 then #[] else v0.cells).size]!) := ⟨_, rfl⟩
      have ex := ext_alloc w (.cells row e)
      have hv0 : v0.cells.size = sz := by have := (hz0 w).2; rw [← hzl, ← this]; simp
      have hS' := h.add ex ⟨w.heap.size, 0, sz, n.toNat, false⟩ (.lst e sz (List.replicate n.toNat (zs.map .r))) (Nat.le_refl _) (by simp) (by
        refine .inr ⟨rfl, row, (0, 0), new_heap _ _, fun i _ => by simp, rfl, by simp [hrow], by simp, fun i el he => ?_⟩
        have hi : i < n.toNat := by have := (List.getElem?_eq_some_iff.1 he).1; simpa using this
        rw [List.getElem?_replicate, if_pos hi] at he
        cases he
        refine ⟨by simpa using hzl, fun j x hj => ?_⟩
        simp only [List.getElem?_map, Option.map_eq_some_iff] at hj
        obtain ⟨u, hu, rfl⟩ := hj
        have hj : j < sz := by rw [← hzl]; exact (List.getElem?_eq_some_iff.1 hu).1
        have hlt : i * sz + j < n.toNat * sz := by
          have : (i + 1) * sz ≤ n.toNat * sz := Nat.mul_le_mul_right _ hi
          rw [Nat.add_mul] at this; omega
        refine ⟨u, ?_, .r _ _, List.all_eq_true.1 hz1 u (List.mem_of_getElem? hu)⟩
        have hne : ¬ n.toNat * sz = 0 := by omega
        show row[0 + i * sz + j]? = some u
        rw [hrow, Nat.zero_add]
        simp only [hne, if_false, Array.getElem?_map]
        rw [Array.getElem?_eq_getElem (by simpa using hlt)]
        simp only [Array.getElem_range, Option.map_some, hv0, Option.some.injEq]
        rw [show (i * sz + j) % sz = j by rw [Nat.mul_comm, Nat.mul_add_mod, Nat.mod_eq_of_lt hj]]
        have : v0.cells[j]? = some u := by rw [← (hz0 w).2] at hu; simpa using hu
        obtain ⟨hlt', hg⟩ := Array.getElem?_eq_some_iff.1 this
        rw [getElem!_pos v0.cells j hlt']
        exact hg)
      refine ⟨.slice (some ⟨w.heap.size, 0, none⟩) n.toNat n.toNat, _, _, _, z, _, .inl ?_, hk, hS', .s _ _ 0 _ _ 0 _ (h.get_new _) rfl (Nat.le_refl _) (by simp) (fun _ => by simp), rfl, fun _ => ex, later_app _ _, ex.t⟩
      have hund := run_underlying (w := w) (und_slice hT rfl)
      have hinfo := run_typeInfo (w := w) hi1
      have hsize := run_sizeOf (w := w) hTe
      have hwrap : IntKind.i64.wrap n = n := Go.IntWalk.i64_in n ⟨by omega, h63⟩
      have hbytes : (i.bytes : Int) * n ≤ 281474976710656 := by rw [← hi3.2.2.1, Int.mul_comm]; exact hb
      simp only [execOp, e1, e2, Instr.makeSlice, Sem.run_bind, hund, asInt, asIntOf, Sem.run_pure, Result.andThen_ok, hinfo, hwrap]
      have c1 : ¬ n < 0 := by omega
      have c2 : ¬ (2 ^ 48 < (i.bytes : Int) * n) := by omega
      have c3 : ¬ n > n := by omega
      simp only [c1, c2, c3, decide_false, Bool.or_false, Bool.false_or, if_false, gt_iff_lt, Bool.false_eq_true, Sem.run_bind, run_askRoom, hsize, Result.andThen_ok]
      by_cases hn0 : n.toNat * sz = 0
      · simp only [hn0, if_true, Sem.run_bind, Sem.run_pure, Result.andThen_ok]
        simp only [hn0, if_true] at hrow
        rw [← hrow]
        rfl
      · simp only [hn0, if_false, Sem.run_bind, (hz0 w).1, Sem.run_pure, Result.andThen_ok]
        simp only [hn0, if_false] at hrow
        rw [← hrow]
        rfl
    · exact hk.elim
  · exact hk.elim
end
end Go.AM
