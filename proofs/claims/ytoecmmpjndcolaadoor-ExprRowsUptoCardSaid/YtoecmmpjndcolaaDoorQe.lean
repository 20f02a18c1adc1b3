/- The abstract machine, 5: places in slices and strings; structs built; all operations that only reckon and read. -/
import Derived.Test.YtoecmmpjndcolaaDoorQd
set_option linter.unusedSimpArgs false
set_option linter.unusedVariables false
namespace Go.AM
open Go
section
variable {P : Program} {E : Env} {N : Nat} {st : AS} {th : List NLoc} {z : Zone} {a : Act} {w : World}
theorem sliceBound_run {k : IntKind} {i : Int} {y : Nat} {c : BoundsCode} (h0 : 0 ≤ i) (h1 : i ≤ y) (w : World) : (Instr.sliceBound (.int k i) y c).run P w = .ok i.toNat w := by
  simp [Instr.sliceBound, asIntOf, h0, h1]
theorem hiA_sound (h : Sim E N st th z a w) {hi : Option Operand} {hi' : Option AV} (hh : evOpt st E.G hi = some hi') {len q : Nat} (hb : hiA len hi' = some q) (isS : Bool) {cap : Nat} (hc : len ≤ cap) :
    q ≤ len ∧ ∀ w', (match hi.map a.eval, (none : Option Value) with | some v, some _ => Instr.sliceBound v cap .slice3B | some v, none => Instr.sliceBound v cap (if isS then .sliceAcap else .sliceAlen) | none, none => pure len | none, some _ => stuck "Slice: max without high" : Sem Nat).run P w' = .ok q w' := by
  cases hi with
  | none =>
    simp only [evOpt, Option.some.injEq] at hh; subst hh
    simp only [hiA, Option.some.injEq] at hb; subst hb
    exact ⟨Nat.le_refl _, fun w' => rfl⟩
  | some x =>
    simp only [evOpt, Option.map_eq_some_iff] at hh
    obtain ⟨av, he, rfl⟩ := hh
    have hr := ev_sound h he
    unfold hiA at hb
    split at hb
    · rename_i hx; cases hx
    · rename_i k hv hx
      simp only [Option.some.injEq] at hx; subst hx
      split at hb
      · rename_i hc'; cases hb
        have := hr.r_inv
        refine ⟨by omega, fun w' => ?_⟩
        simp only [Option.map_some, this]
        exact sliceBound_run hc'.1 (by omega) w'
      · cases hb
    · cases hb
theorem bnd_sound (h : Sim E N st th z a w) {lo hi : Option Operand} {lo' hi' : Option AV} (hl : evOpt st E.G lo = some lo') (hh : evOpt st E.G hi = some hi') {len l r : Nat} (hb : bnd len lo' hi' = some (l, r)) (isS : Bool) {cap : Nat} (hc : len ≤ cap) :
    l ≤ r ∧ r ≤ len ∧ ∀ w', (Instr.sliceBounds isS len cap (lo.map a.eval) (hi.map a.eval) none).run P w' = .ok (l, r, cap) w' := by
  unfold bnd at hb
  split at hb
  · cases hb
  rename_i q hq
  obtain ⟨hqle, hrun⟩ := hiA_sound (P := P) h hh hq isS hc
  simp only [Option.map_eq_some_iff, Prod.mk.injEq] at hb
  obtain ⟨l', hl', rfl, rfl⟩ := hb
  cases lo with
  | none =>
    simp only [evOpt, Option.some.injEq] at hl; subst hl
    simp only [loA, Option.some.injEq] at hl'; subst hl'
    refine ⟨Nat.zero_le _, hqle, fun w' => ?_⟩
    have hr' := hrun w'
    clear hrun
    cases hi with
    | none => simp at hr'; subst hr'; simp [Instr.sliceBounds]
    | some x => simp only [Option.map_some] at hr'; simp [Instr.sliceBounds, hr']
  | some x =>
    simp only [evOpt, Option.map_eq_some_iff] at hl
    obtain ⟨av, he, rfl⟩ := hl
    have hr := ev_sound h he
    unfold loA at hl'
    split at hl'
    · rename_i hx; cases hx
    · rename_i k lv hx
      simp only [Option.some.injEq] at hx; subst hx
      split at hl'
      · rename_i hc'; cases hl'
        have := hr.r_inv
        refine ⟨by omega, hqle, fun w' => ?_⟩
        have hr' := hrun w'
        clear hrun
        cases hi with
        | none => simp at hr'; subst hr'; simp [Instr.sliceBounds, this, sliceBound_run hc'.1 hc'.2]
        | some x => simp only [Option.map_some] at hr'; simp [Instr.sliceBounds, hr', this, sliceBound_run hc'.1 hc'.2]
      · cases hl'
    · cases hl'
theorem slA_sound (h : Sim E N st th z a w) {T : TypeId} {y : TY} (hT : tyOf P T = some y) {x r : AV} {v : Value} (hr : Rep w z th x v) {lo hi : Option Operand} {lo' hi' : Option AV} (hl : evOpt st E.G lo = some lo') (hh : evOpt st E.G hi = some hi')
    (hq : slA P st y lo' hi' x = some r) : ∃ u, Rep w z th r u ∧ ∀ w', SameK st th z w w' → (Instr.sliceAt T v (lo.map a.eval) (hi.map a.eval) none).run P w' = .ok u w' := by
  unfold slA at hq
  split at hq
  · obtain rfl := hr.r_inv
    split at hq
    · rename_i hk
      simp only [Option.map_eq_some_iff] at hq
      obtain ⟨⟨l, q⟩, hb, rfl⟩ := hq
      obtain ⟨h1, h2, h3⟩ := bnd_sound (P := P) h hl hh hb false (Nat.le_refl _)
      refine ⟨_, .r th _, fun w' _ => ?_⟩
      simp [Instr.sliceAt, Instr.slice, run_underlying (und_str hT hk), h3]
    · cases hq
  · rename_i t k els
    split at hq
    · rename_i e hk
      split at hq
      · rename_i ye he
        split at hq
        · rename_i hke; subst hke
          simp only [Option.map_eq_some_iff] at hq
          obtain ⟨⟨l, q⟩, hb, rfl⟩ := hq
          obtain ⟨ad, c, rfl, hc, hcell⟩ := hr.ro_inv
          obtain ⟨h1, h2, h3⟩ := bnd_sound (P := P) h hl hh hb true hc
          have hlen : ((els.take q).drop l).length = q - l := by simp; omega
          refine ⟨.slice (if c = l then ad else ad.map (·.add (l * ye.size))) (q - l) (c - l), ?_, fun w' _ => ?_⟩
          · by_cases hz : q - l = 0
            · have : (els.take q).drop l = [] := List.length_eq_zero_iff.1 (by omega)
              simp only [this, hz]; exact .nil _ _ _ _ _
            · rcases hcell with hn | ⟨b, o, rfl, hzb, hcell⟩
              · subst hn; simp at h2; omega
              · rw [if_neg (by omega)]
                simp only [Option.map_some, add_none]
                rw [← hlen]
                refine Rep.ro_mk hzb (by rw [hlen]; omega) (fun i e' he' => ?_)
                rw [List.getElem?_drop, List.getElem?_take] at he'
                split at he'
                · obtain ⟨k1, k2⟩ := hcell _ _ he'
                  refine ⟨k1, fun j x hj => ?_⟩
                  obtain ⟨y, hy, hr⟩ := k2 j x hj
                  exact ⟨y, by rw [show o + l * ye.size + i * ye.size + j = o + (l + i) * ye.size + j by rw [Nat.add_mul]; omega]; exact hy, hr⟩
                · cases he'
          · simp [Instr.sliceAt, Instr.slice, run_underlying (und_slice hT hk), h3, run_sizeOf he]
        · cases hq
      · cases hq
    · cases hq
  · rename_i n lo0 len
    split at hq
    · rename_i e hk
      split at hq
      · rename_i ye T' k' els he hn
        split at hq
        · rename_i hke; subst hke
          simp only [Option.map_eq_some_iff] at hq
          obtain ⟨⟨l, q⟩, hb, rfl⟩ := hq
          obtain ⟨L, hL, hcase⟩ := hr.s_inv
          obtain ⟨L', h1', hnd, _⟩ := h.mem.nds _ _ hn
          rw [hL] at h1'; cases h1'
          rcases hcase with ⟨hp, rfl, rfl⟩ | ⟨hp, c, o, rfl, hlc, hcap, ho⟩
          · obtain ⟨h1, h2, h3⟩ := bnd_sound (P := P) h hl hh hb true (Nat.le_refl 0)
            obtain rfl : l = 0 := by omega
            obtain rfl : q = 0 := by omega
            refine ⟨.slice none 0 0, .sn th n _ L hL hp, fun w' _ => ?_⟩
            simp [Instr.sliceAt, Instr.slice, run_underlying (und_slice hT hk), h3, run_sizeOf he]
          obtain ⟨h1, h2, h3⟩ := bnd_sound (P := P) h hl hh hb true hlc
          have hkk : L.k = ye.size := by
            rcases hnd with ⟨hp', _⟩ | ⟨_, cells, fr, _, _, hkk, _⟩
            · rw [hp] at hp'; cases hp'
            · exact hkk
          refine ⟨.slice (some (if c = l then ⟨L.b, o, none⟩ else ⟨L.b, o + l * ye.size, none⟩)) (q - l) (c - l), ?_, fun w' _ => ?_⟩
          · by_cases hcl : c = l
            · rw [if_pos hcl]
              exact .s th n _ _ _ o L hL hp (by omega) (by omega) (fun hh => by omega)
            · rw [if_neg hcl]
              refine .s th n _ _ _ _ L hL hp (by omega) (by omega) (fun hh => ?_)
              have := ho (by omega)
              subst this
              rw [← hkk, Nat.add_mul, Nat.add_assoc]
          · simp [Instr.sliceAt, Instr.slice, run_underlying (und_slice hT hk), h3, run_sizeOf he, add_none]
            split <;> rfl
        · cases hq
      · cases hq
    · cases hq
  · obtain rfl := hr.r_inv
    split at hq
    · rename_i e hk
      split at hq
      · rename_i ye he
        simp only [Option.map_eq_some_iff] at hq
        obtain ⟨⟨l, q⟩, hb, rfl⟩ := hq
        obtain ⟨h1, h2, h3⟩ := bnd_sound (P := P) h hl hh hb true (Nat.le_refl 0)
        obtain rfl : l = 0 := by omega
        obtain rfl : q = 0 := by omega
        refine ⟨_, .r th _, fun w' _ => ?_⟩
        simp only [Instr.sliceAt, Instr.slice, Sem.run_bind, run_underlying (und_slice hT hk), h3, Result.andThen_ok]
        simp [run_sizeOf he]
      · cases hq
    · cases hq
  · cases hq
theorem bnd3_sound (h : Sim E N st th z a w) {lo : Option Operand} {hi m : Operand} {lo' : Option AV} {kh km : IntKind} {hv mv : Int} (hl : evOpt st E.G lo = some lo') (hh : ev st E.G hi = some (.r (.int kh hv))) (hm : ev st E.G m = some (.r (.int km mv)))
    {len l r : Nat} (hb : bnd len lo' (some (.r (.int kh hv))) = some (l, r)) (h0 : 0 ≤ mv) (h1 : mv ≤ len) (h2 : hv ≤ mv) {cap : Nat} (hc : len ≤ cap) :
    l ≤ r ∧ (r : Int) ≤ mv ∧ ∀ w', (Instr.sliceBounds true len cap (lo.map a.eval) (some (a.eval hi)) (some (a.eval m))).run P w' = .ok (l, r, mv.toNat) w' := by
  have eh := (ev_sound h hh).r_inv
  have em := (ev_sound h hm).r_inv
  unfold bnd at hb
  split at hb
  · cases hb
  rename_i q hq
  simp only [hiA] at hq
  split at hq
  · rename_i hc'
    simp only [Option.some.injEq] at hq
    subst hq
    simp only [Option.map_eq_some_iff, Prod.mk.injEq] at hb
    obtain ⟨l', hl', rfl, rfl⟩ := hb
    have e1 : ∀ w', (Instr.sliceBound (a.eval m) cap .slice3Acap).run P w' = .ok mv.toNat w' := fun w' => by rw [em]; exact sliceBound_run h0 (by omega) w'
    have e2 : ∀ w', (Instr.sliceBound (a.eval hi) mv.toNat .slice3B).run P w' = .ok hv.toNat w' := fun w' => by rw [eh]; exact sliceBound_run hc'.1 (by omega) w'
    cases lo with
    | none =>
      simp only [evOpt, Option.some.injEq] at hl; subst hl
      simp only [loA, Option.some.injEq] at hl'; subst hl'
      refine ⟨Nat.zero_le _, by omega, fun w' => ?_⟩
      simp [Instr.sliceBounds, e1, e2]
    | some x =>
      simp only [evOpt, Option.map_eq_some_iff] at hl
      obtain ⟨av, he, rfl⟩ := hl
      have hr := ev_sound h he
      unfold loA at hl'
      split at hl'
      · rename_i hx; cases hx
      · rename_i k lv hx
        simp only [Option.some.injEq] at hx; subst hx
        split at hl'
        · rename_i hc2; cases hl'
          have := hr.r_inv
          refine ⟨by omega, by omega, fun w' => ?_⟩
          simp [Instr.sliceBounds, e1, e2, this, sliceBound_run hc2.1 hc2.2]
        · cases hl'
      · cases hl'
  · cases hq
theorem sl3A_sound (h : Sim E N st th z a w) {T : TypeId} {y : TY} (hT : tyOf P T = some y) {x r : AV} {v : Value} (hr : Rep w z th x v) {lo : Option Operand} {hi m : Operand} {lo' : Option AV} {hi' m' : AV} (hl : evOpt st E.G lo = some lo') (hh : ev st E.G hi = some hi') (hm : ev st E.G m = some m')
    (hq : sl3A P st y lo' hi' m' x = some r) : ∃ u, Rep w z th r u ∧ ∀ w', SameK st th z w w' → (Instr.sliceAt T v (lo.map a.eval) (some (a.eval hi)) (some (a.eval m))).run P w' = .ok u w' := by
  unfold sl3A at hq
  split at hq
  case h_2 => cases hq
  rename_i ni mi hii kn nn km mv kh hv hlen
  split at hq
  case isFalse => cases hq
  rename_i hcond
  obtain ⟨hm0, hm1, hm2⟩ := hcond
  unfold slA at hq
  split at hq
  · rename_i s; simp [lenS] at hlen
  · rename_i t k els
    simp only [lenS, Option.some.injEq, AV.r.injEq, Value.int.injEq] at hlen
    obtain ⟨rfl, rfl⟩ := hlen
    split at hq
    · rename_i e hk
      split at hq
      · rename_i ye he
        split at hq
        · rename_i hke; subst hke
          simp only [Option.map_eq_some_iff] at hq
          obtain ⟨⟨l, q⟩, hb, rfl⟩ := hq
          obtain ⟨ad, c, rfl, hc, hcell⟩ := hr.ro_inv
          obtain ⟨h1, h2, h3⟩ := bnd3_sound (P := P) h hl hh hm hb hm0 hm1 hm2 hc
          have hlen : ((els.take q).drop l).length = q - l := by simp; omega
          refine ⟨.slice (if mv.toNat = l then ad else ad.map (·.add (l * ye.size))) (q - l) (mv.toNat - l), ?_, fun w' _ => ?_⟩
          · by_cases hz : q - l = 0
            · have : (els.take q).drop l = [] := List.length_eq_zero_iff.1 (by omega)
              simp only [this, hz]; exact .nil _ _ _ _ _
            · rcases hcell with hn | ⟨b, o, rfl, hzb, hcell⟩
              · subst hn; simp at hm1; omega
              · rw [if_neg (by omega)]
                simp only [Option.map_some, add_none]
                rw [← hlen]
                refine Rep.ro_mk hzb (by rw [hlen]; omega) (fun i e' he' => ?_)
                rw [List.getElem?_drop, List.getElem?_take] at he'
                split at he'
                · obtain ⟨k1, k2⟩ := hcell _ _ he'
                  refine ⟨k1, fun j x hj => ?_⟩
                  obtain ⟨y, hy, hr⟩ := k2 j x hj
                  exact ⟨y, by rw [show o + l * ye.size + i * ye.size + j = o + (l + i) * ye.size + j by rw [Nat.add_mul]; omega]; exact hy, hr⟩
                · cases he'
          · simp [Instr.sliceAt, Instr.slice, run_underlying (und_slice hT hk), h3, run_sizeOf he]
        · cases hq
      · cases hq
    · cases hq
  · rename_i n lo0 len
    simp only [lenS, Option.some.injEq, AV.r.injEq, Value.int.injEq] at hlen
    obtain ⟨rfl, rfl⟩ := hlen
    split at hq
    · rename_i e hk
      split at hq
      · rename_i ye T' k' els he hn
        split at hq
        · rename_i hke; subst hke
          simp only [Option.map_eq_some_iff] at hq
          obtain ⟨⟨l, q⟩, hb, rfl⟩ := hq
          obtain ⟨L, hL, hcase⟩ := hr.s_inv
          obtain ⟨L', h1', hnd, _⟩ := h.mem.nds _ _ hn
          rw [hL] at h1'; cases h1'
          rcases hcase with ⟨hp, rfl, rfl⟩ | ⟨hp, c, o, rfl, hlc, hcap, ho⟩
          · obtain ⟨h1, h2, h3⟩ := bnd3_sound (P := P) h hl hh hm hb hm0 hm1 hm2 (Nat.le_refl 0)
            obtain rfl : mv = 0 := by omega
            obtain rfl : q = 0 := by omega
            obtain rfl : l = 0 := by omega
            refine ⟨.slice none 0 0, .sn th n _ L hL hp, fun w' _ => ?_⟩
            simp [Instr.sliceAt, Instr.slice, run_underlying (und_slice hT hk), h3, run_sizeOf he]
          obtain ⟨h1, h2, h3⟩ := bnd3_sound (P := P) h hl hh hm hb hm0 hm1 hm2 hlc
          have hkk : L.k = ye.size := by
            rcases hnd with ⟨hp', _⟩ | ⟨_, cells, fr, _, _, hkk, _⟩
            · rw [hp] at hp'; cases hp'
            · exact hkk
          refine ⟨.slice (some (if mv.toNat = l then ⟨L.b, o, none⟩ else ⟨L.b, o + l * ye.size, none⟩)) (q - l) (mv.toNat - l), ?_, fun w' _ => ?_⟩
          · by_cases hcl : mv.toNat = l
            · rw [if_pos hcl]
              exact .s th n _ _ _ o L hL hp (by omega) (by omega) (fun hh => by omega)
            · rw [if_neg hcl]
              refine .s th n _ _ _ _ L hL hp (by omega) (by omega) (fun hh => ?_)
              have := ho (by omega)
              subst this
              rw [← hkk, Nat.add_mul, Nat.add_assoc]
          · simp [Instr.sliceAt, Instr.slice, run_underlying (und_slice hT hk), h3, run_sizeOf he, add_none]
            split <;> rfl
        · cases hq
      · cases hq
    · cases hq
  · obtain rfl := hr.r_inv
    simp only [lenS, Option.some.injEq, AV.r.injEq, Value.int.injEq] at hlen
    obtain ⟨rfl, rfl⟩ := hlen
    split at hq
    · rename_i e hk
      split at hq
      · rename_i ye he
        simp only [Option.map_eq_some_iff] at hq
        obtain ⟨⟨l, q⟩, hb, rfl⟩ := hq
        obtain ⟨h1, h2, h3⟩ := bnd3_sound (P := P) h hl hh hm hb hm0 hm1 hm2 (Nat.le_refl 0)
        obtain rfl : mv = 0 := by omega
        obtain rfl : q = 0 := by omega
        obtain rfl : l = 0 := by omega
        refine ⟨_, .r th _, fun w' _ => ?_⟩
        simp only [Instr.sliceAt, Instr.slice, Sem.run_bind, run_underlying (und_slice hT hk), h3, Result.andThen_ok]
        simp [run_sizeOf he]
      · cases hq
    · cases hq
  · cases hq
theorem capA_sound {x r : AV} {v : Value} (hr : Rep w z th x v) {T : TypeId} {y : TY} (hq : capA x y.k = some r) (hT : tyOf P T = some y) : ∃ u, Rep w z th r u ∧ ∀ w' ty, (Builtin.cap_ #[T] ty #[v]).run P w' = .ok u w' := by
  unfold capA at hq
  split at hq
  · rename_i e hk
    split at hq
    · cases hq
      obtain rfl := hr.r_inv
      exact ⟨_, .r _ _, fun w' ty => by simp [Builtin.cap_, run_underlying (und_slice hT hk), goInt]⟩
    · cases hq
  · cases hq
theorem ptrAdd_sound {d : Nat} {x r : AV} {v : Value} (hr : Rep w z th x v) (hq : ptrAdd d x = some r) : ∃ b o, v = .pointer (some ⟨b, o, none⟩) ∧ Rep w z th r (.pointer (some ⟨b, o + d, none⟩)) := by
  unfold ptrAdd at hq
  split at hq
  · cases hq
    obtain ⟨b, o, rfl, hz, hc⟩ := hr.re_inv
    exact ⟨b, _, rfl, by rw [Nat.add_assoc]; exact Rep.re_mk hz hc⟩
  · cases hq
    obtain ⟨L, hL, rfl⟩ := hr.p_inv
    exact ⟨L.b, _, rfl, by rw [Nat.add_assoc]; exact .p th _ _ _ L hL⟩
  · cases hq
theorem ixA_sound (h : Sim E N st th z a w) {T : TypeId} {y : TY} (hT : tyOf P T = some y) {x r : AV} {v : Value} (hr : Rep w z th x v) {k : IntKind} {i : Int} (hq : ixA st P y i x = some r) :
    ∃ u, Rep w z th r u ∧ ∀ w', (Instr.indexAt T v (.int k i)).run P w' = .ok u w' := by
  unfold ixA at hq
  split at hq
  · rename_i e hk
    split at hq
    · rename_i ye t k' els he
      split at hq
      · rename_i hc; obtain ⟨rfl, h0⟩ := hc
        simp only [Option.map_eq_some_iff] at hq
        obtain ⟨c, hc, rfl⟩ := hq
        have hi : i.toNat < els.length := (List.getElem?_eq_some_iff.1 hc).1
        obtain ⟨ad, cap, rfl, hcap, hn | ⟨b, o, rfl, hz, hcell⟩⟩ := hr.ro_inv
        · subst hn; simp at hi
        · obtain ⟨_, h3⟩ := hcell _ _ hc
          refine ⟨.pointer (some ⟨b, o + i.toNat * ye.size + 0, none⟩), Rep.re_mk hz (fun j x hj => let ⟨y, h1, h2, _⟩ := h3 j x hj; ⟨y, h1, h2⟩), fun w' => ?_⟩
          have : 0 ≤ i ∧ i < els.length := ⟨h0, by omega⟩
          simp [Instr.indexAt, asIntOf, run_underlying (und_slice hT hk), this, run_sizeOf he, add_none]
      · cases hq
    · rename_i ye n lo len he
      split at hq
      · rename_i T' k' els hn
        split at hq
        · rename_i hc; obtain ⟨rfl, h0, h1⟩ := hc; cases hq
          obtain ⟨L, hL, hcase⟩ := hr.s_inv
          obtain ⟨L', h1', hnd, _⟩ := h.mem.nds _ _ hn
          rw [hL] at h1'; cases h1'
          rcases hcase with ⟨_, rfl, _⟩ | ⟨hp, c, o, rfl, hlc, hcap, ho⟩
          · omega
          have hkk : L.k = ye.size := by
            rcases hnd with ⟨hp', _⟩ | ⟨_, cells, fr, _, _, hkk, _⟩
            · rw [hp] at hp'; cases hp'
            · exact hkk
          have ho := ho (by omega)
          subst ho
          refine ⟨.pointer (some ⟨L.b, L.o + (lo + i.toNat) * L.k + 0, none⟩), .p th n _ 0 L hL, fun w' => ?_⟩
          simp [Instr.indexAt, asIntOf, run_underlying (und_slice hT hk), h0, h1, run_sizeOf he, add_none]
          rw [← hkk, Nat.add_mul, Nat.add_assoc]
        · cases hq
      · cases hq
    · cases hq
  · rename_i m e hk
    split at hq
    · rename_i ye he
      split at hq
      · rename_i hc
        obtain ⟨b, o, rfl, hr'⟩ := ptrAdd_sound hr hq
        refine ⟨_, hr', fun w' => ?_⟩
        simp [Instr.indexAt, Instr.sureAddr, asIntOf, run_underlying (und_arr hT hk), hc, run_sizeOf he, add_none]
      · cases hq
    · cases hq
  · cases hq
end
end Go.AM
