/- The abstract machine, 6: all operations that only reckon and read. -/
import Derived.Test.YtoecmmpjndcolaaDoorQe
set_option linter.unusedSimpArgs false
set_option linter.unusedVariables false
namespace Go.AM
open Go
section
variable {P : Program} {E : Env} {N : Nat} {st : AS} {th : List NLoc} {z : Zone} {a : Act} {w : World}
theorem foldl_splice (off : Nat) : ∀ (new : List Value) (s : Nat) (cs : Array Value), off + s + new.length ≤ cs.size →
    ((new.zipIdx s).foldl (fun cs p => cs.setIfInBounds (off + p.2) p.1) cs).toList = cs.toList.take (off + s) ++ new ++ cs.toList.drop (off + s + new.length)
  | [], s, cs, _ => by simp
  | x :: new, s, cs, h => by
    simp only [List.length_cons] at h
    rw [List.zipIdx_cons, List.foldl_cons, foldl_splice off new (s + 1) _ (by simp; omega)]
    simp only [Array.toList_setIfInBounds, List.length_cons]
    have hs : cs.toList.length = cs.size := by simp
    rw [List.set_eq_take_append_cons_drop, if_pos (by omega)]
    have hl : (cs.toList.take (off + s)).length = off + s := by rw [List.length_take]; omega
    have e1 : List.take (off + (s + 1)) (List.take (off + s) cs.toList ++ x :: List.drop (off + s + 1) cs.toList) = List.take (off + s) cs.toList ++ [x] := by
      rw [List.take_append, hl, List.take_of_length_le (by omega), show off + (s + 1) - (off + s) = 1 by omega]
      simp
    have e2 : List.drop (off + (s + 1) + new.length) (List.take (off + s) cs.toList ++ x :: List.drop (off + s + 1) cs.toList) = List.drop (off + s + (new.length + 1)) cs.toList := by
      rw [List.drop_append, hl, List.drop_of_length_le (by omega), show off + (s + 1) + new.length - (off + s) = new.length + 1 by omega, List.nil_append, List.drop_succ_cons, List.drop_drop]
      congr 1; omega
    rw [e1, e2]
    simp
theorem cells_sound {x : AV} {v : Value} (hr : Rep w z th x v) (ho : x.okPart = true) : Reps w z th x.cells v.cells.toList := by
  have one : ∀ (x : AV) (v : Value), Rep w z th x v → Reps w z th [x] [v] := fun x v h => .cons h .nil
  cases hr with
  | r _ v => cases v <;> first | exact one _ _ (.r th _) | (simp [AV.okPart] at ho)
  | nil _ t k ad c => exact one _ _ (.nil th t k ad c)
  | ro _ t k els b o c ys hz hc hk hy h1 hx => exact one _ _ (.ro th t k els b o c ys hz hc hk hy h1 hx)
  | re _ t c b o off ys hz hy hx => exact one _ _ (.re th t c b o off ys hz hy hx)
  | s _ n lo len c x L hL hp hl hc hx => exact one _ _ (.s th n lo len c x L hL hp hl hc hx)
  | sn _ n lo L hL hp => exact one _ _ (.sn th n lo L hL hp)
  | p _ n i off L hL => exact one _ _ (.p th n i off L hL)
  | agg _ c ys hl hx => simp only [Value.cells, AV.cells]; exact ⟨hl, hx⟩
  | tup _ c ys hl hx => exact one _ _ (.tup th c ys hl hx)
  | fn _ f c ys hl hx => exact one _ _ (.fn th f c ys hl hx)
  | ifc _ t x v hx => exact one _ _ (.ifc th t x v hx)
theorem Reps.splice {cs new : List AV} {ys us : List Value} {off : Nat} (h : Reps w z th cs ys) (h' : Reps w z th new us) : Reps w z th (splice cs off new) (ys.take off ++ us ++ ys.drop (off + us.length)) := by
  unfold Go.AM.splice
  rw [h'.1]
  exact ((h.take off).append h').append (h.drop _)
theorem fill_sound (h : Sim E N st th z a w) (place : Nat → Option (Nat × Nat)) : ∀ (l : List (Nat × Operand)) (l' : List (Nat × AV)) (cs : List AV) (ys : Array Value) (c : List AV), evParts st E.G l = some l' → Reps w z th cs ys.toList → fillA place cs l' = some c →
    ∃ us : Array Value, Instr.fill place ys (l.map fun p => (p.1, a.eval p.2)) = some us ∧ Reps w z th c us.toList
  | [], l', cs, ys, c, he, hr, hf => by
    simp only [evParts, Option.some.injEq] at he; subst he
    simp only [fillA, Option.some.injEq] at hf; subst hf
    exact ⟨ys, rfl, hr⟩
  | (i, x) :: l, l', cs, ys, c, he, hr, hf => by
    simp only [evParts] at he
    split at he
    · rename_i av l2 h1 h2; cases he
      unfold fillA at hf
      split at hf
      · cases hf
      · rename_i off sz hp
        split at hf
        · rename_i hc; obtain ⟨h3, h4, h5⟩ := hc
          have hv := ev_sound h h1
          have hcells := cells_sound hv h5
          have hsz : (a.eval x).cells.size = sz := by
            have := hcells.1; rw [h3] at this; simpa using this
          have hys : ys.size = cs.length := by simpa using hr.1
          have key := foldl_splice off (a.eval x).cells.toList 0 ys (by simp [hsz]; omega)
          simp only [Nat.add_zero] at key
          obtain ⟨us, hus, hru⟩ := fill_sound h place l l2 (splice cs off av.cells) _ c h2 (by rw [key]; exact hr.splice hcells) hf
          refine ⟨us, ?_, hru⟩
          simp only [List.map_cons, Instr.fill, hp]
          rw [if_neg (by simp [hsz]; omega)]
          rw [← hus]
          congr 1
          rw [← Array.foldl_toList, Array.toList_zipIdx]
        · cases hf
    · cases he
theorem lenA_sound {x r : AV} {y : TY} {v : Value} (hr : Rep w z th x v) (hq : lenA x y.k = some r) {T : TypeId} (hT : tyOf P T = some y) :
    ∃ u, Rep w z th r u ∧ ∀ w' ty, (Builtin.len_ #[T] ty #[v]).run P w' = .ok u w' := by
  unfold lenA at hq
  split at hq
  · rename_i e hk
    have hs : ∀ (ad : Option Addr) (l c : Nat) w' ty, (Builtin.len_ #[T] ty #[.slice ad l c]).run P w' = .ok (.int .i64 l) w' := by
      intro ad l c w' ty
      simp [Builtin.len_, run_underlying (und_slice hT hk), goInt]
    unfold lenS at hq
    split at hq
    · cases hq
      obtain ⟨ad, c, rfl, _⟩ := hr.ro_inv
      exact ⟨_, .r th _, fun w' ty => hs _ _ _ _ _⟩
    · cases hq
      obtain ⟨L, _, ⟨_, rfl, rfl⟩ | ⟨_, c, o, rfl, _⟩⟩ := hr.s_inv
      · exact ⟨_, .r th _, fun w' ty => hs _ _ _ _ _⟩
      · exact ⟨_, .r th _, fun w' ty => hs _ _ _ _ _⟩
    · cases hq
      obtain rfl := hr.r_inv
      exact ⟨_, .r th _, fun w' ty => hs _ _ _ _ _⟩
    · cases hq
  · rename_i hk
    split at hq
    · cases hq
      obtain rfl := hr.r_inv
      exact ⟨_, .r th _, fun w' ty => by simp [Builtin.len_, run_underlying (und_str hT hk), goInt]⟩
    · cases hq
  · rename_i n e hk
    cases hq
    exact ⟨_, .r th _, fun w' ty => by simp [Builtin.len_, run_underlying (und_arr hT hk), goInt]⟩
  · cases hq
theorem ixV_sound {T : TypeId} {y : TY} (hT : tyOf P T = some y) {x r : AV} {v : Value} (hr : Rep w z th x v) {k : IntKind} {i : Int} (hq : ixV P y i x = some r) :
    ∃ u, Rep w z th r u ∧ ∀ w', (Instr.index T v (.int k i)).run P w' = .ok u w' := by
  unfold ixV at hq
  split at hq
  · rename_i s hk
    obtain rfl := hr.r_inv
    split at hq
    · rename_i h0
      simp only [Option.map_eq_some_iff] at hq
      obtain ⟨b, hb, rfl⟩ := hq
      refine ⟨_, .r th _, fun w' => ?_⟩
      simp [Instr.index, asIntOf, run_underlying (und_str hT hk), h0, hb]
    · cases hq
  · rename_i m e c hk
    split at hq
    · rename_i ye he
      split at hq
      · rename_i hc
        obtain ⟨ys, rfl, hc'⟩ := hr.agg_inv
        unfold pickC at hq
        split at hq
        · rename_i hag
          split at hq
          · cases hq
            refine ⟨_, .agg th _ ((ys.drop (i.toNat * ye.size)).take ye.size) ?_ ?_, fun w' => ?_⟩
            · exact ((hc'.drop _).take _).1
            · exact ((hc'.drop _).take _).2
            · simp [Instr.index, asIntOf, run_underlying (und_arr hT hk), hc, part, run_isAgg he, hag, run_sizeOf he]
          · cases hq
        · rename_i hag
          obtain ⟨u, hu, hr'⟩ := hc'.get hq
          refine ⟨u, hr', fun w' => ?_⟩
          simp [Instr.index, asIntOf, run_underlying (und_arr hT hk), hc, part, run_isAgg he, hag, run_sizeOf he, hu]
      · cases hq
    · cases hq
  · cases hq
theorem run_mapM_list {α β : Type} (f : α → Sem β) (g : α → β) (w : World) : ∀ l : List α, (∀ x ∈ l, (f x).run P w = .ok (g x) w) → (l.mapM f).run P w = .ok (l.map g) w
  | [], _ => by simp
  | x :: l, h => by
    rw [List.mapM_cons, Sem.run_bind, h x (by simp), Result.andThen_ok, Sem.run_bind, run_mapM_list f g w l (fun y hy => h y (by simp [hy]))]
    rfl
theorem run_mapM_arr {α β : Type} (f : α → Sem β) (g : α → β) (w : World) (l : Array α) (h : ∀ x ∈ l.toList, (f x).run P w = .ok (g x) w) : (l.mapM f).run P w = .ok (l.toList.map g).toArray w := by
  obtain ⟨l⟩ := l
  rw [List.mapM_toArray, Sem.run_map, run_mapM_list f g w l h]
  rfl
theorem run_zero_any {T : TypeId} {k : TK} {s b : Nat} {zs : List Value} (hT : tyOf P T = some ⟨k, s, b, some zs⟩) : ∃ v : Value, ∀ w', (zeroValue T).run P w' = .ok v w' ∧ v.cells.toList = zs := by
  obtain ⟨i, d, h1, h2, h3⟩ := tyOf_spec hT
  simp only [TY.mk.injEq] at h3
  obtain ⟨_, _, _, h3⟩ := h3
  obtain ⟨v, hv, hv'⟩ := Option.map_eq_some_iff.1 h3.symm
  exact ⟨v, fun w' => ⟨by simp [zeroValue, run_typeInfo h1, hv], hv'⟩⟩
theorem Reps.plain (l : List Value) : Reps w z th (l.map AV.r) l := by
  refine ⟨by simp, fun i x y h1 h2 => ?_⟩
  simp only [List.getElem?_map, h2, Option.map_some, Option.some.injEq] at h1
  subst h1; exact .r th _
theorem Rep.agg_mk {c : List AV} {us : Array Value} (h : Reps w z th c us.toList) : Rep w z th (.agg c) (.agg us) := by
  have := Rep.agg th c us.toList h.1 h.2
  simpa using this
theorem qv_sound (h : Sim E N st th z a w) (o : Oper) {x : AV} (hq : qv P E.G st o.op = some x) : ∃ v, Rep w z th x v ∧ ∀ w', SameK st th z w w' → (execOp a.eval o).run P w' = .ok (.value v) w' := by
  obtain ⟨dst, op, ty, pos, aft, gd⟩ := o
  simp only at hq
  unfold qv at hq
  split at hq
  · exact ⟨_, ev_sound h hq, fun w' _ => by simp [execOp]⟩
  · exact ⟨_, ev_sound h hq, fun w' _ => by simp [execOp]⟩
  · split at hq
    · rename_i c a1 b1 h1 h2 h3; cases hq
      have r1 := (ev_sound h h1).r_inv
      have r2 := ev_sound h h2
      have r3 := ev_sound h h3
      refine ⟨if c then a.eval _ else a.eval _, ?_, fun w' _ => by simp only [execOp, r1, asBool]; rfl⟩
      have hbo : ∀ {x : AV} {b : Bool}, boolOf x = some b → x = .r (.bool b) := by
        intro x b hx
        unfold boolOf at hx
        split at hx
        · cases hx; rfl
        · cases hx
      unfold pickAV
      split
      · rename_i x y hx hy
        rw [hbo hx] at r2; rw [hbo hy] at r3
        obtain e2 := r2.r_inv; obtain e3 := r3.r_inv
        cases c
        · simp only [cond_false]; rw [e3]; exact .r th _
        · simp only [cond_true]; rw [e2]; exact .r th _
      · cases c
        · simpa using r3
        · simpa using r2
    · cases hq
  · split at hq
    · rename_i y x1 hT he
      split at hq
      · rename_i c off hc
        obtain ⟨b, o, hv, hlt, hcell⟩ := cellsAt_sound h (ev_sound h he) hc
        obtain ⟨v, hr, hrun⟩ := run_loadVar (P := P) hT hq (fun _ => .inr trivial) hcell
        refine ⟨v, hr, fun w' ew => ?_⟩
        simp only [execOp, hv, Instr.loadAt, Instr.sureAddr, Sem.run_bind, Sem.run_pure, Result.andThen_ok]
        rw [hrun w' (fun o => ext_cell ew hlt o)]
        rfl
      · cases hq
    · cases hq
  · split at hq
    · rename_i t c off he; cases hq
      have hr := ev_sound h he
      obtain ⟨b, o, hv, _⟩ := hr.re_inv
      rw [hv] at hr
      exact ⟨_, hr, fun w' _ => by simp only [execOp, hv]; rfl⟩
    · rename_i n i off he; cases hq
      have hr := ev_sound h he
      obtain ⟨L, _, hv⟩ := hr.p_inv
      rw [hv] at hr
      exact ⟨_, hr, fun w' _ => by simp only [execOp, hv]; rfl⟩
    · rename_i f c he; cases hq
      have hr := ev_sound h he
      generalize hv : a.eval _ = v at hr
      cases hr with
      | fn _ _ _ ys hl hx => exact ⟨_, .fn th f c ys hl hx, fun w' _ => by simp only [execOp, hv]; rfl⟩
    · cases hq
  · split at hq
    · rename_i y x1 x2 hT h1 h2
      obtain ⟨v, hr, hrun⟩ := eqA_sound hT (ev_sound h h1) (ev_sound h h2) hq _ _
      refine ⟨v, hr, fun w' _ => ?_⟩
      have := hrun w'
      simp only [execOp]
      rw [Sem.run_bind, this]; rfl
    · rename_i y x1 x2 hT h1 h2
      obtain ⟨v, hr, hrun⟩ := binA_sound hT (ev_sound h h1) (ev_sound h h2) hq _ _
      refine ⟨v, hr, fun w' _ => ?_⟩
      have := hrun w'
      simp only [execOp]
      rw [Sem.run_bind, this]; rfl
    · cases hq
  · split at hq
    · rename_i x1 h1
      obtain ⟨v, hr, hrun⟩ := unA_sound (P := P) (ev_sound h h1) hq
      refine ⟨v, hr, fun w' _ => ?_⟩
      simp only [execOp]
      rw [Sem.run_bind, hrun w']; rfl
    · cases hq
  · split at hq
    · rename_i s d x1 hS hD h1
      obtain ⟨v, hr, hrun⟩ := cvA_sound h hS hD (ev_sound h h1) hq
      refine ⟨v, hr, fun w' ew => ?_⟩
      simp only [execOp]
      rw [Sem.run_bind, hrun w' ew]; rfl
    · cases hq
  · split at hq
    · cases hq
    · rename_i y x1 hne hT h1; cases hq
      obtain ⟨d, hd, hdn⟩ := und_not_ifc hT (fun hk => by obtain ⟨k, s, b, zz⟩ := y; simp only at hk; subst hk; exact hne _ _ _ rfl)
      refine ⟨_, .ifc th _ _ _ (ev_sound h h1), fun w' _ => ?_⟩
      simp only [execOp, Instr.makeInterface, Sem.run_bind, run_underlying hd, Result.andThen_ok]
      rfl
    · cases hq
  · split at hq
    · rename_i c hf he; cases hq
      obtain ⟨hl, hx⟩ := evs_sound h he
      refine ⟨_, .fn th _ c _ hl hx, fun w' _ => ?_⟩
      have hfirst := Array.toList_eq_nil_iff.1 hf
      subst hfirst
      simp [execOp, Instr.makeFunc]
      apply Array.ext'; simp
    · cases hq
  · split at hq
    · rename_i y x1 lo hi hT h1 hl hh
      obtain ⟨v, hr, hrun⟩ := slA_sound h hT (ev_sound h h1) hl hh hq
      refine ⟨v, hr, fun w' ew => ?_⟩
      simp only [execOp, Option.map_none]
      rw [Sem.run_bind, hrun w' ew]; rfl
    · cases hq
  · split at hq
    · rename_i y x1 lo hi m hT h1 hl hh hm
      obtain ⟨v, hr, hrun⟩ := sl3A_sound h hT (ev_sound h h1) hl hh hm hq
      refine ⟨v, hr, fun w' ew => ?_⟩
      simp only [execOp, Option.map_some]
      rw [Sem.run_bind, hrun w' ew]; rfl
    · cases hq
  · split at hq
    · rename_i fs sz by' zz x1 hT h1
      split at hq
      · rename_i off fsz hfs
        split at hq
        · cases hq
        · rename_i hnz
          obtain ⟨b, o, hv, hr⟩ := ptrAdd_sound (ev_sound h h1) hq
          obtain ⟨gs, hu, hg, hsome⟩ := und_struct hT rfl
          refine ⟨_, hr, fun w' _ => ?_⟩
          rw [hg] at hfs
          simp only [List.getElem?_map, Option.map_eq_some_iff, Prod.mk.injEq] at hfs
          obtain ⟨f, hf, rfl, hsz⟩ := hfs
          rw [Array.getElem?_toList] at hf
          simp only [execOp, Instr.fieldAt, Sem.run_bind, run_underlying hu, Result.andThen_ok, hf, hv, Instr.sureAddr, Sem.run_pure, fieldPlace]
          have : (sizeOf f.type).run P w' = .ok fsz w' := by
            unfold sizeAt at hsz
            split at hsz
            · rename_i i hi; subst hsz; simp [sizeOf, run_typeInfo hi]
            · omega
          simp [this, hnz, add_none]
      · cases hq
    · cases hq
  · split at hq
    · rename_i y x1 k i hT h1 h2
      have hi := (ev_sound h h2).r_inv
      obtain ⟨v, hr, hrun⟩ := ixA_sound (k := k) h hT (ev_sound h h1) hq
      refine ⟨v, hr, fun w' _ => ?_⟩
      simp only [execOp, hi]
      rw [Sem.run_bind, hrun w']; rfl
    · cases hq
  · split at hq
    · rename_i y x1 k i hT h1 h2
      have hi := (ev_sound h h2).r_inv
      obtain ⟨v, hr, hrun⟩ := ixV_sound (k := k) hT (ev_sound h h1) hq
      refine ⟨v, hr, fun w' _ => ?_⟩
      simp only [execOp, hi]
      rw [Sem.run_bind, hrun w']; rfl
    · cases hq
  · split at hq
    · rename_i c h1
      generalize hv : a.eval _ = u at *
      obtain ⟨ys, hu, hc⟩ := (show Rep w z th (.tup c) (a.eval _) from ev_sound h h1).tup_inv
      obtain ⟨v, hy, hr⟩ := hc.get hq
      refine ⟨v, hr, fun w' _ => ?_⟩
      simp [execOp, hu, Instr.extract, hy]
    · cases hq
  · split at hq
    · rename_i parts _ _ fs sz by' zs l hT he
      simp only [Option.map_eq_some_iff] at hq
      obtain ⟨c, hf, rfl⟩ := hq
      obtain ⟨gs, hu, hg, hsome⟩ := und_struct hT rfl
      obtain ⟨v0, hz⟩ := run_zero_any hT
      obtain ⟨us, hus, hru⟩ := fill_sound h _ _ _ _ v0.cells _ he (by rw [(hz w).2]; exact Reps.plain zs) hf
      refine ⟨.agg us, Rep.agg_mk hru, fun w' _ => ?_⟩
      have hpl : (gs.mapM fun f => do pure (f.offset, ← sizeOf f.type) : Sem (Array (Nat × Nat))).run P w' = .ok fs.toArray w' := by
        rw [hg]
        refine run_mapM_arr _ (fun f => (f.offset, sizeAt P f.type)) w' gs (fun f hf => ?_)
        obtain ⟨i, hi⟩ := Option.isSome_iff_exists.1 (hsome f hf)
        simp [sizeOf, run_typeInfo hi, sizeAt, hi]
      simp only [execOp, Instr.build, Sem.run_bind, (hz w').1, Result.andThen_ok, run_underlying hu, hpl]
      have : Instr.fill (fun x => fs.toArray[x]?) v0.cells (Array.map (fun x => (x.1, a.eval x.2)) parts).toList = some us := by
        rw [← hus]
        simp
      simp only [this]
      rfl
    · rename_i parts _ _ m e sz by' zs l hT he
      split at hq
      · rename_i ye hye
        simp only [Option.map_eq_some_iff] at hq
        obtain ⟨c, hf, rfl⟩ := hq
        obtain ⟨v0, hz⟩ := run_zero_any hT
        obtain ⟨us, hus, hru⟩ := fill_sound h _ _ _ _ v0.cells _ he (by rw [(hz w).2]; exact Reps.plain zs) hf
        refine ⟨.agg us, Rep.agg_mk hru, fun w' _ => ?_⟩
        simp only [execOp, Instr.build, Sem.run_bind, (hz w').1, Result.andThen_ok, run_underlying (und_arr hT rfl), run_sizeOf hye]
        have : Instr.fill (fun i => some (i * ye.size, ye.size)) v0.cells (Array.map (fun x => (x.1, a.eval x.2)) parts).toList = some us := by
          rw [← hus]
          simp
        simp only [this]
        rfl
      · cases hq
    · cases hq
  · rename_i args argTypes
    split at hq
    · rename_i x1 T he hT0
      split at hq
      · rename_i y hT
        have hr := evs_sound h he
        obtain ⟨v, ys, hys, hr1, hr2⟩ := hr.head
        have := hr2.of_nil; subst this
        obtain ⟨u, hu, hrun⟩ := lenA_sound hr1 hq hT
        refine ⟨u, hu, fun w' _ => ?_⟩
        obtain ⟨args⟩ := args
        simp only at he hys
        have hT1 : argTypes[0]? = some T := hT0
        have : (Builtin.len_ argTypes ty #[v]).run P w' = .ok u w' := by
          rw [← hrun w' ty]
          simp [Builtin.len_, hT1]
        simp only [execOp, resolve, invoke, builtin, Sem.run_bind, Sem.run_pure, Result.andThen_ok]
        have he2 : (Array.map a.eval ⟨args⟩) = #[v] := by
          simp [hys]
        rw [he2, this]
        rfl
      · cases hq
    · cases hq
  · rename_i args argTypes
    split at hq
    · rename_i x1 T he hT0
      split at hq
      · rename_i y hT
        have hr := evs_sound h he
        obtain ⟨v, ys, hys, hr1, hr2⟩ := hr.head
        have := hr2.of_nil; subst this
        obtain ⟨u, hu, hrun⟩ := capA_sound hr1 hq hT
        refine ⟨u, hu, fun w' _ => ?_⟩
        obtain ⟨args⟩ := args
        simp only at he hys
        have hT1 : argTypes[0]? = some T := hT0
        have : (Builtin.cap_ argTypes ty #[v]).run P w' = .ok u w' := by
          rw [← hrun w' ty]
          simp [Builtin.cap_, hT1]
        simp only [execOp, resolve, invoke, builtin, Sem.run_bind, Sem.run_pure, Result.andThen_ok]
        have he2 : (Array.map a.eval ⟨args⟩) = #[v] := by
          simp [hys]
        rw [he2, this]
        rfl
      · cases hq
    · cases hq
  · cases hq
end
end Go.AM
