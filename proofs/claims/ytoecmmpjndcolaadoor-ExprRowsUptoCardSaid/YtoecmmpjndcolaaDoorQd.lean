/- The abstract machine, 4: the operations that only reckon and read, one by one. -/
import Derived.Test.YtoecmmpjndcolaaDoorQc
import Derived.Laws.IdiomStrings
set_option linter.unusedSimpArgs false
set_option linter.unusedVariables false
namespace Go.AM
open Go
section
variable {P : Program} {E : Env} {N : Nat} {st : AS} {th : List NLoc} {z : Zone} {a : Act} {w : World}
theorem eqGuard_int (op : BinOp) (T : TypeId) (X Y : Operand) (k k' : IntKind) (x y : Int) (w : World) : (eqGuard op T X Y (.int k x) (.int k' y)).run P w = .ok () w := by
  cases op <;> simp [eqGuard]
theorem eqGuard_str (op : BinOp) (T : TypeId) (X Y : Operand) (x y : ByteArray) (w : World) : (eqGuard op T X Y (.string x) (.string y)).run P w = .ok () w := by
  cases op <;> simp [eqGuard]
theorem eqGuard_bool (op : BinOp) (T : TypeId) (X Y : Operand) (x y : Bool) (w : World) : (eqGuard op T X Y (.bool x) (.bool y)).run P w = .ok () w := by
  cases op <;> simp [eqGuard]
theorem eqGuard_slice (op : BinOp) (T : TypeId) (X Y : Operand) (a b : Option Addr) (l m c d : Nat) (w : World) : (eqGuard op T X Y (.slice a l c) (.slice b m d)).run P w = .ok () w := by
  cases op <;> simp [eqGuard]
theorem intA_sound {op : BinOp} {k : IntKind} {x y : Int} {r : AV} (hq : intA op k x y = some r) (T : TypeId) (w : World) : ∃ v, r = .r v ∧ ∀ w, (binOp op T (.int k x) (.int k y)).run P w = .ok v w := by
  cases op <;> simp only [intA] at hq <;> first
    | (cases hq; done)
    | (split at hq <;> cases hq; rename_i hb; exact ⟨_, rfl, fun w => by simp [binOp, Op.intDiv, hb]⟩)
    | (cases hq; refine ⟨_, rfl, fun w => ?_⟩; simp only [binOp, ne_eq, not_true_eq_false, if_false]; rfl)
    | (cases hq; refine ⟨_, rfl, fun w => ?_⟩; simp [binOp, Op.intArith, Op.intCmp, bAnd, bOr, bXor]; done)
theorem shA_sound {op : BinOp} {k k' : IntKind} {x y : Int} {r : AV} (hq : shA op k x y = some r) (T : TypeId) (w : World) : ∃ v, r = .r v ∧ ∀ w, (binOp op T (.int k x) (.int k' y)).run P w = .ok v w := by
  cases op <;> simp only [shA] at hq <;> first
    | (cases hq; done)
    | (split at hq <;> cases hq; rename_i hb; exact ⟨_, rfl, fun w => by simp [binOp, Op.shift, hb, shlI, shrI]⟩)
theorem strA_sound {op : BinOp} {x y : ByteArray} {r : AV} (hq : strA op x y = some r) (T : TypeId) : ∃ v, r = .r v ∧ ∀ w, (binOp op T (.string x) (.string y)).run P w = .ok v w := by
  cases op
  case add =>
    simp only [strA] at hq
    split at hq
    · rename_i hb
      simp only [Option.some.injEq] at hq
      subst hq
      refine ⟨_, rfl, fun w => ?_⟩
      have : ¬ (((x.size + y.size : Nat) : Int) > IntKind.i64.max) := by
        have : IntKind.i64.max = 9223372036854775807 := by decide
        omega
      simp only [binOp, Op.stringOp, this, if_false, Sem.run_pure]
    · cases hq
  all_goals
    simp only [strA] at hq
    first
      | (cases hq; done)
      | (cases hq; exact ⟨_, rfl, fun w => by simp [binOp, Op.stringOp]⟩)
theorem nilA_sound {x : AV} {v : Value} {b : Bool} (h : Rep w z th x v) (hn : nilA x = some b) : ∃ ad l c, v = .slice ad l c ∧ ad.isNone = b := by
  unfold nilA at hn
  split at hn
  · cases hn; have := h.r_inv; subst this; exact ⟨_, _, _, rfl, rfl⟩
  · cases hn
    obtain ⟨ad, c, rfl, _, h1 | ⟨b, o, rfl, _⟩⟩ := h.ro_inv
    · cases h1
    · exact ⟨_, _, _, rfl, rfl⟩
  · split at hn
    · rename_i hpos; cases hn
      obtain ⟨L, _, ⟨_, h0, _⟩ | ⟨_, c, o, rfl, _⟩⟩ := h.s_inv
      · omega
      · exact ⟨_, _, _, rfl, rfl⟩
    · cases hn
  · cases hn
theorem equal_nil {T e : TypeId} (hu : P.underlying T = some (.slice e)) (ad : Option Addr) (l c : Nat) (w : World) : (Op.equal T (.slice ad l c) (.slice none 0 0)).run P w = .ok ad.isNone w := by
  have e : Op.equal T (.slice ad l c) (.slice none 0 0) = Op.equalIn (9999 + 1) T (.slice ad l c) (.slice none 0 0) := rfl
  rw [e, Op.equalIn]
  cases ad <;> simp [run_underlying hu]
theorem equal_bool {T : TypeId} (hu : P.underlying T = some .bool) (x y : Bool) (w : World) : (Op.equal T (.bool x) (.bool y)).run P w = .ok (x == y) w := by
  have e : Op.equal T (.bool x) (.bool y) = Op.equalIn (9999 + 1) T (.bool x) (.bool y) := rfl
  rw [e, Op.equalIn]
  simp [run_underlying hu]
theorem eqC_sound {k : TK} {x y : AV} {u v : Value} {r : Bool} (hx : Rep w z th x u) (hy : Rep w z th y v) (h : eqC k x y = some r) {T : TypeId} {d : TypeDesc} (hu : P.underlying T = some d) (hk : (∃ k', k = .int k' ∧ d = .int k') ∨ (k = .str ∧ d = .string) ∨ (k = .bool ∧ d = .bool)) (D : Nat) (w' : World) : (Op.equalIn (D + 1) T u v).run P w' = .ok r w' := by
  unfold eqC at h
  split at h
  · obtain rfl := hx.r_inv; obtain rfl := hy.r_inv
    split at h
    · rename_i hkk; subst hkk; cases h
      rcases hk with ⟨k', _, rfl⟩ | ⟨h1, _⟩ | ⟨h1, _⟩
      · exact run_equalIn_int w' D T _ k' _ _ hu
      · cases h1
      · cases h1
    · cases h
  · obtain rfl := hx.r_inv; obtain rfl := hy.r_inv; cases h
    rcases hk with ⟨k', h1, _⟩ | ⟨_, rfl⟩ | ⟨h1, _⟩
    · cases h1
    · exact run_equalIn_string w' D T _ _ hu
    · cases h1
  · obtain rfl := hx.r_inv; obtain rfl := hy.r_inv; cases h
    rcases hk with ⟨k', h1, _⟩ | ⟨h1, _⟩ | ⟨_, rfl⟩
    · cases h1
    · cases h1
    · exact run_equalIn_bool' w' D T _ _ hu
  · cases h
/-- A value of a type, and its cells. -/
def WholeV (P : Program) (T : TypeId) (xs : Array Value) (v : Value) : Prop := (∃ fs, P.underlying T = some (.struct fs) ∧ v = .agg xs) ∨ ((∃ d, P.underlying T = some d ∧ ((∃ k, d = .int k) ∨ d = .string ∨ d = .bool)) ∧ xs = #[v])
def isAggD : TypeDesc → Bool
  | .struct _ | .array _ _ => true
  | _ => false
theorem part_whole {T : TypeId} {i : TypeInfo} {d : TypeDesc} (hi : P.info? T = some i) (hu : P.underlying T = some d) (hd : (∃ fs, d = .struct fs) ∨ (∃ k, d = .int k) ∨ d = .string ∨ d = .bool) (xs : Array Value) (o : Nat) (hl : (¬ ∃ fs, d = .struct fs) → (xs.extract o (o + i.size)).size = 1) (w' : World) :
    ∃ v, (part T xs o).run P w' = .ok v w' ∧ WholeV P T (xs.extract o (o + i.size)) v := by
  have ha : (isAgg T).run P w' = .ok (isAggD d) w' := by
    simp only [isAgg, Sem.run_bind, Go.AM.run_underlying hu, Result.andThen_ok]; cases d <;> rfl
  have hsz : (sizeOf T).run P w' = .ok i.size w' := by simp [sizeOf, run_typeInfo hi]
  by_cases hs : ∃ fs, d = .struct fs
  · obtain ⟨fs, rfl⟩ := hs
    refine ⟨.agg (xs.extract o (o + i.size)), ?_, .inl ⟨fs, hu, rfl⟩⟩
    simp only [part, Sem.run_bind, ha, Result.andThen_ok, isAggD, if_true, hsz, Sem.run_pure]
  · have h1 := hl hs
    have hd' : (∃ k, d = .int k) ∨ d = .string ∨ d = .bool := hd.resolve_left hs
    have hag : isAggD d = false := by rcases hd' with ⟨k, rfl⟩ | rfl | rfl <;> rfl
    simp only [Array.size_extract] at h1
    obtain ⟨v, hv⟩ : ∃ v, xs[o]? = some v := ⟨xs[o], by simp [show o < xs.size by omega]⟩
    refine ⟨v, ?_, .inr ⟨⟨d, hu, hd'⟩, ?_⟩⟩
    · simp only [part, Sem.run_bind, ha, Result.andThen_ok, hag, Bool.false_eq_true, if_false, hv, Sem.run_pure]
    · apply Array.ext'
      have : o < xs.size := by omega
      have hlen : (xs.extract o (o + i.size)).toList.length = 1 := by simp; omega
      obtain ⟨u, hu'⟩ := List.length_eq_one_iff.1 hlen
      have h0 : (xs.extract o (o + i.size)).toList[0]? = some u := by rw [hu']; rfl
      rw [hu']
      rw [Array.toList_extract, List.extract_eq_take_drop, List.getElem?_take_of_lt (by omega), List.getElem?_drop] at h0
      simp [hv] at h0
      rw [h0]
mutual
theorem eqT_sound : ∀ (d : Nat) {T : TypeId} {t : ET}, etOf P d T = some t → ∀ (a b : List AV) (xs ys : Array Value) (u v : Value) (r : Bool), Reps w z th a xs.toList → Reps w z th b ys.toList → WholeV P T xs u → WholeV P T ys v → eqT t a b = some r → ∀ (D : Nat), d ≤ D → ∀ w', (Op.equalIn D T u v).run P w' = .ok r w'
  | 0, T, t, h => by simp [etOf] at h
  | d + 1, T, t, h => by
    intro a b xs ys u v r ha hb hu hv hq D hD w'
    obtain ⟨D, rfl⟩ : ∃ D', D = D' + 1 := ⟨D - 1, by omega⟩
    have prim : ∀ {k : TK} {dd : TypeDesc}, P.underlying T = some dd → (¬ ∃ fs, dd = .struct fs) → t = .prim k → ((∃ k', k = .int k' ∧ dd = .int k') ∨ (k = .str ∧ dd = .string) ∨ (k = .bool ∧ dd = .bool)) → (Op.equalIn (D + 1) T u v).run P w' = .ok r w' := by
      intro k dd hud hns ht hk
      subst ht
      have one : ∀ {xs : Array Value} {u : Value}, WholeV P T xs u → xs = #[u] := by
        rintro xs u (⟨fs, h1, _⟩ | ⟨_, h2⟩)
        · rw [hud] at h1; cases h1; exact (hns ⟨_, rfl⟩).elim
        · exact h2
      obtain rfl := one hu; obtain rfl := one hv
      unfold eqT at hq
      split at hq
      · rename_i k' x y he; cases he
        have hx : Rep w z th x u := ha.2 0 x u rfl rfl
        have hy : Rep w z th y v := hb.2 0 y v rfl rfl
        exact eqC_sound hx hy hq hud hk D w'
      · cases hq
      · rename_i he; cases he
    unfold etOf at h
    split at h
    · rename_i k hk; cases h; exact prim hk (by rintro ⟨_, h⟩; cases h) rfl (.inl ⟨k, rfl, rfl⟩)
    · rename_i hk; cases h; exact prim hk (by rintro ⟨_, h⟩; cases h) rfl (.inr (.inl ⟨rfl, rfl⟩))
    · rename_i hk; cases h; exact prim hk (by rintro ⟨_, h⟩; cases h) rfl (.inr (.inr ⟨rfl, rfl⟩))
    · rename_i fs hk
      split at h
      · cases h
      · rename_i hst
        simp only [Option.map_eq_some_iff] at h
        obtain ⟨l, hl, rfl⟩ := h
        simp only [eqT] at hq
        have whole : ∀ {xs : Array Value} {u : Value}, WholeV P T xs u → u = .agg xs := by
          rintro xs u (⟨fs, h1, h2⟩ | ⟨⟨dd, h1, h2⟩, _⟩)
          · exact h2
          · rw [hk] at h1; cases h1; rcases h2 with ⟨_, h⟩ | h | h <;> cases h
        obtain rfl := whole hu; obtain rfl := whole hv
        have hf : P.fieldsOf T = fs := by simp [Program.fieldsOf, hk]
        rw [run_equalIn_struct w' D T xs ys (by rw [hf]; exact hk) (by simpa using hst), hf]
        exact eqFs_sound d hl _ _ _ _ _ ha hb hq D (by omega) w'
    · cases h
theorem eqFs_sound : ∀ (d : Nat) {fs : List Field} {l : List (Nat × Nat × ET)}, etFs P d fs = some l → ∀ (a b : List AV) (xs ys : Array Value) (r : Bool), Reps w z th a xs.toList → Reps w z th b ys.toList → eqFs l a b = some r → ∀ (D : Nat), d ≤ D → ∀ w', (Op.eqFields D xs ys fs).run P w' = .ok r w'
  | d, [], l, h => by
    intro a b xs ys r ha hb hq D hD w'
    have : l = [] := by cases d <;> (unfold etFs at h; simpa using h.symm)
    subst this
    simp only [eqFs] at hq; cases hq
    simp [Op.eqFields]
  | 0, f :: fs, l, h => by simp [etFs] at h
  | d + 1, f :: fs, l, h => by
    intro a b xs ys r ha hb hq D hD w'
    unfold etFs at h
    split at h
    · cases h
    · rename_i hname
      split at h
      · rename_i t l' i h1 h2 h3
        cases h
        simp only [eqFs] at hq
        split at hq
        · rename_i p q hp hq'
          cases hq
          have hda : Reps w z th ((a.drop f.offset).take i.size) (xs.extract f.offset (f.offset + i.size)).toList := by
            have := (ha.drop f.offset).take i.size
            simpa [Array.toList_extract, List.extract_eq_take_drop] using this
          have hdb : Reps w z th ((b.drop f.offset).take i.size) (ys.extract f.offset (f.offset + i.size)).toList := by
            have := (hb.drop f.offset).take i.size
            simpa [Array.toList_extract, List.extract_eq_take_drop] using this
          obtain ⟨dd, hud, hdd⟩ : ∃ dd, P.underlying f.type = some dd ∧ ((∃ fs, dd = .struct fs) ∨ (∃ k, dd = .int k) ∨ dd = .string ∨ dd = .bool) := by
            cases d with
            | zero => simp [etOf] at h1
            | succ d =>
              unfold etOf at h1
              split at h1
              · rename_i k hk; exact ⟨_, hk, .inr (.inl ⟨k, rfl⟩)⟩
              · rename_i hk; exact ⟨_, hk, .inr (.inr (.inl rfl))⟩
              · rename_i hk; exact ⟨_, hk, .inr (.inr (.inr rfl))⟩
              · rename_i fs hk; exact ⟨_, hk, .inl ⟨fs, rfl⟩⟩
              · cases h1
          have hone : (¬ ∃ fs, dd = .struct fs) → ((a.drop f.offset).take i.size).length = 1 ∧ ((b.drop f.offset).take i.size).length = 1 := by
            intro hns
            have ht : ∃ k, t = .prim k := by
              cases d with
              | zero => simp [etOf] at h1
              | succ d =>
                unfold etOf at h1
                rw [hud] at h1
                rcases hdd with hh | ⟨k, rfl⟩ | rfl | rfl
                · exact (hns hh).elim
                · exact ⟨_, (Option.some.inj h1).symm⟩
                · exact ⟨_, (Option.some.inj h1).symm⟩
                · exact ⟨_, (Option.some.inj h1).symm⟩
            obtain ⟨k, rfl⟩ := ht
            unfold eqT at hp
            split at hp
            · rename_i x y he e1 e2; rw [e1, e2]; exact ⟨rfl, rfl⟩
            · cases hp
            · rename_i he; cases he
          obtain ⟨u, hu1, hu2⟩ := part_whole h3 hud hdd xs f.offset (fun hns => by have := hda.1; rw [(hone hns).1, Array.length_toList] at this; exact this) w'
          obtain ⟨v, hv1, hv2⟩ := part_whole h3 hud hdd ys f.offset (fun hns => by have := hdb.1; rw [(hone hns).2, Array.length_toList] at this; exact this) w'
          have he := eqT_sound d h1 _ _ _ _ _ _ _ hda hdb hu2 hv2 hp D (by omega) w'
          have hr := eqFs_sound d h2 _ _ _ _ _ ha hb hq' D (by omega) w'
          simp only [Op.eqFields, ne_eq, hname, not_false_eq_true, if_true, Sem.run_bind, hu1, hv1, he, Result.andThen_ok, Sem.run_ite]
          cases p <;> simp [hr]
        · cases hq
      · cases h
end
theorem eqA_sound {op : BinOp} {T : TypeId} {y : TY} (hT : tyOf P T = some y) {a b : List AV} {r : AV} {v1 v2 : Value} (h1 : Rep w z th (.agg a) v1) (h2 : Rep w z th (.agg b) v2) (hq : eqA P op T a b = some r) (X Y : Operand) :
    ∃ v, Rep w z th r v ∧ ∀ w', (do eqGuard op T X Y v1 v2; binOp op T v1 v2 : Sem Value).run P w' = .ok v w' := by
  obtain ⟨xs, rfl, hx⟩ := h1.agg_inv
  obtain ⟨ys, rfl, hy⟩ := h2.agg_inv
  have main : ∀ {fs : List (Nat × Nat × ET)} {q : Bool}, etTop P T = some (.str fs) → eqFs fs a b = some q → (∀ w', (eqGuard op T X Y (.agg xs.toArray) (.agg ys.toArray)).run P w' = .ok () w') ∧ ∀ w', (Op.equalIn 10000 T (.agg xs.toArray) (.agg ys.toArray)).run P w' = .ok q w' := by
    intro fs q ht hq
    unfold etTop at ht
    split at ht
    · cases ht
    rename_i hg
    have hg' : P.eqGuardType P.depth T = false := by simpa using hg
    refine ⟨fun w' => ?_, fun w' => ?_⟩
    · cases op <;> simp [eqGuard, hg']
    · have hu : ∃ gs, P.underlying T = some (.struct gs) := by
        unfold etOf at ht
        split at ht
        · cases ht
        · cases ht
        · cases ht
        · rename_i gs hk; exact ⟨gs, hk⟩
        · cases ht
      obtain ⟨gs, hu⟩ := hu
      exact eqT_sound 200 ht a b xs.toArray ys.toArray _ _ q hx hy (.inl ⟨gs, hu, rfl⟩) (.inl ⟨gs, hu, rfl⟩) (by simpa only [eqT] using hq) 10000 (by omega) w'
  unfold eqA at hq
  split at hq
  · rename_i fs ht
    simp only [Option.map_eq_some_iff] at hq
    obtain ⟨q, hq, rfl⟩ := hq
    obtain ⟨m1, m2⟩ := main ht hq
    exact ⟨_, .r th _, fun w' => by rw [Sem.run_bind, m1, Result.andThen_ok, run_eql_struct, m2]; rfl⟩
  · rename_i fs ht
    simp only [Option.map_eq_some_iff] at hq
    obtain ⟨q, hq, rfl⟩ := hq
    obtain ⟨m1, m2⟩ := main ht hq
    exact ⟨_, .r th _, fun w' => by rw [Sem.run_bind, m1, Result.andThen_ok, run_neq_struct, m2]; rfl⟩
  · cases hq
theorem binA_sound {op : BinOp} {T : TypeId} {y : TY} (hT : tyOf P T = some y) {x1 x2 r : AV} {v1 v2 : Value} (h1 : Rep w z th x1 v1) (h2 : Rep w z th x2 v2) (hq : binA op y x1 x2 = some r) (X Y : Operand) :
    ∃ v, Rep w z th r v ∧ ∀ w', (do eqGuard op T X Y v1 v2; binOp op T v1 v2 : Sem Value).run P w' = .ok v w' := by
  unfold binA at hq
  split at hq
  · rename_i k x k' y'
    obtain rfl := h1.r_inv; obtain rfl := h2.r_inv
    split at hq
    · obtain ⟨v, rfl, hv⟩ := shA_sound (P := P) (k' := k') hq T w
      exact ⟨v, .r th v, fun w' => by simp only [Sem.run_bind, eqGuard_int, Result.andThen_ok, hv]⟩
    split at hq
    · rename_i hk; subst hk
      obtain ⟨v, rfl, hv⟩ := intA_sound (P := P) hq T w
      exact ⟨v, .r th v, fun w' => by simp only [Sem.run_bind, eqGuard_int, Result.andThen_ok, hv]⟩
    · cases hq
  · rename_i x y'
    obtain rfl := h1.r_inv; obtain rfl := h2.r_inv
    obtain ⟨v, rfl, hv⟩ := strA_sound (P := P) hq T
    exact ⟨v, .r th v, fun w' => by simp only [Sem.run_bind, eqGuard_str, Result.andThen_ok, hv]⟩
  · rename_i x y'
    obtain rfl := h1.r_inv; obtain rfl := h2.r_inv
    split at hq
    · rename_i hk; cases hq
      exact ⟨_, .r th _, fun w' => by simp only [Sem.run_bind, eqGuard_bool, Result.andThen_ok, binOp, equal_bool (und_bool hT hk), Sem.run_pure]⟩
    · rename_i hk; cases hq
      exact ⟨_, .r th _, fun w' => by simp only [Sem.run_bind, eqGuard_bool, Result.andThen_ok, binOp, equal_bool (und_bool hT hk), Sem.run_pure]⟩
    · cases hq
  · obtain rfl := h2.r_inv
    split at hq
    · rename_i hk hn; cases hq
      obtain ⟨ad, l, c, rfl, rfl⟩ := nilA_sound h1 hn
      exact ⟨_, .r th _, fun w' => by simp only [Sem.run_bind, eqGuard_slice, Result.andThen_ok, binOp, equal_nil (und_slice hT hk), Sem.run_pure]⟩
    · rename_i hk hn; cases hq
      obtain ⟨ad, l, c, rfl, rfl⟩ := nilA_sound h1 hn
      exact ⟨_, .r th _, fun w' => by simp only [Sem.run_bind, eqGuard_slice, Result.andThen_ok, binOp, equal_nil (und_slice hT hk), Sem.run_pure]⟩
    · cases hq
  · cases hq
theorem unA_sound {op : UnOp} {x r : AV} {v : Value} (h : Rep w z th x v) (hq : unA op x = some r) : ∃ u, Rep w z th r u ∧ ∀ w', (Op.unary op v).run P w' = .ok u w' := by
  unfold unA at hq
  split at hq
  · cases hq; obtain rfl := h.r_inv; exact ⟨_, .r th _, fun w' => by simp [Op.unary]⟩
  · cases hq; obtain rfl := h.r_inv; exact ⟨_, .r th _, fun w' => by simp [Op.unary, Op.intArith]⟩
  · cases hq
/-- The elements of a slice value, as they lie: all in one block. -/
theorem elemsOf_sound (h : Sim E N st th z a w) {x : AV} {v : Value} (hr : Rep w z th x v) {k : Nat} {els : List (List AV)} (he : elemsOf st k x = some els) :
    ∃ ad c, v = .slice ad els.length c ∧ els.length ≤ c ∧ (els = [] ∨ ∃ b o, ad = some ⟨b, o, none⟩ ∧ b < w.heap.size ∧ Kn st th z b ∧
      ∀ (i : Nat) (e : List AV), els[i]? = some e → e.length = k ∧ ∀ (j : Nat) (x : AV), e[j]? = some x → ∃ y, w.cell? ⟨b, o + i * k + j, none⟩ = some y ∧ Rep w z [] x y ∧ y.oneCell' = true) := by
  unfold elemsOf at he
  split at he
  · split at he
    · rename_i hk; subst hk; cases he
      obtain ⟨ad, c, rfl, hc, h1 | ⟨b, o, rfl, hz, h2⟩⟩ := hr.ro_inv
      · exact ⟨ad, c, rfl, hc, .inl h1⟩
      · exact ⟨_, c, rfl, hc, .inr ⟨b, o, rfl, h.mem.zlt _ _ hz, .inl ⟨_, hz⟩, h2⟩⟩
    · cases he
  · rename_i n lo len
    obtain ⟨L, hL, hcase⟩ := hr.s_inv
    split at he
    · rename_i T k' l hn
      split at he
      · rename_i hle; obtain ⟨rfl, hle⟩ := hle; cases he
        have hlen : ((l.drop lo).take len).length = len := by simp; omega
        rcases hcase with ⟨_, rfl, rfl⟩ | ⟨hp, c, o, rfl, hl, hcap, ho⟩
        · exact ⟨none, 0, by simp, by simp, .inl (by simp)⟩
        refine ⟨_, c, by rw [hlen], by rw [hlen]; exact hl, ?_⟩
        obtain ⟨L', h1, hnd, h8⟩ := h.mem.nds _ _ hn
        rw [hL] at h1; cases h1
        rcases hnd with ⟨hp', _⟩ | ⟨_, cells, fr, h2, h3, h4, h5, h6, h7⟩
        · rw [hp] at hp'; cases hp'
        by_cases hz : len = 0
        · left; subst hz; simp
        · right
          have ho := ho (by omega)
          subst ho
          refine ⟨L.b, _, rfl, (h8 hp).1, .inr ⟨n, _, L, hn, hL, hp, rfl⟩, fun i e hi => ?_⟩
          rw [List.getElem?_take] at hi
          split at hi
          · rw [List.getElem?_drop] at hi
            obtain ⟨k1, k2⟩ := h7 _ _ hi
            refine ⟨k1.trans h4, fun j x hj => ?_⟩
            obtain ⟨y, hy, hr⟩ := k2 j x hj
            refine ⟨y, ?_, hr⟩
            rw [cell_of h2, ← h4, show L.o + lo * L.k + i * L.k + j = L.o + (lo + i) * L.k + j by rw [Nat.add_mul]; omega]
            exact hy
          · cases hi
      · cases he
    · cases he
  · cases he; obtain rfl := hr.r_inv; exact ⟨none, 0, rfl, Nat.le_refl _, .inl rfl⟩
  · cases he
theorem unb_spec : ∀ {els : List (List AV)} {bs : List UInt8}, unb els = some bs → els = bs.map eByte
  | [], bs, h => by simp only [unb, Option.some.injEq] at h; subst h; rfl
  | e :: r, bs, h => by
    unfold unb at h
    split at h
    · cases h; rename_i hh; cases hh
    · rename_i n r' hh
      cases hh
      split at h
      · rename_i l hl
        split at h
        · rename_i hn; cases h
          have := unb_spec hl
          rw [this, List.map_cons]
          simp only [eByte]; rw [← hn]
        · cases h
      · cases h
    · cases h
theorem cvA_sound (h : Sim E N st th z a w) {S D : TypeId} {s d : TY} (hS : tyOf P S = some s) (hD : tyOf P D = some d) {x r : AV} {v : Value} (hr : Rep w z th x v) (hq : cvA P st s d x = some r) :
    ∃ u, Rep w z th r u ∧ ∀ w', SameK st th z w w' → (convert S D v).run P w' = .ok u w' := by
  unfold cvA at hq
  split at hq
  · obtain rfl := hr.r_inv
    split at hq
    · rename_i k hk; cases hq
      obtain ⟨i, dd, _, hu, _⟩ := tyOf_spec hS
      refine ⟨_, .r th _, fun w' _ => ?_⟩
      simp only [convert, Sem.run_bind, run_underlying hu, run_underlying (und_int hD hk), Result.andThen_ok]
      simp [Conv.intToInt]
    · cases hq
  · obtain rfl := hr.r_inv
    split at hq
    · rename_i hk1 hk2; cases hq
      refine ⟨_, .r th _, fun w' _ => ?_⟩
      simp [convert, run_underlying (und_str hS hk1), run_underlying (und_str hD hk2)]
    · cases hq
  · split at hq
    · rename_i e hk1 hk2
      split at hq
      · rename_i sz by' ze els he hel
        split at hq
        · rename_i bs hb; cases hq
          have hb := unb_spec hb
          obtain ⟨ad, c, rfl, hc, hcell⟩ := elemsOf_sound h hr hel
          refine ⟨_, .r th _, fun w' ew => ?_⟩
          have hl : els.length = bs.length := by rw [hb]; simp
          cases ad with
          | none =>
            have hn : els = [] := by
              rcases hcell with h1 | ⟨b, o, h1, _⟩
              · exact h1
              · cases h1
            have : bs = [] := by rw [hn] at hl; exact List.length_eq_zero_iff.1 (by simpa using hl.symm)
            subst this
            rw [run_convert_bytes_string w' S D e none _ c (und_slice hS hk1) (und_int he rfl) (und_str hD hk2)]
            simp [Conv.bytesToString]
            rfl
          | some ad =>
            rw [hl]
            refine run_convert_bytes_back w' S D e ad c bs (und_slice hS hk1) (und_int he rfl) (und_str hD hk2) (fun j hj => ?_)
            rcases hcell with h1 | ⟨b, o, h1, _, hlt, h2⟩
            · rw [h1] at hl; simp at hl; omega
            · cases h1
              obtain ⟨_, h3⟩ := h2 j (eByte bs[j]) (by rw [hb]; simp [hj])
              obtain ⟨y, hy, hr, _⟩ := h3 0 _ rfl
              have := hr.r_inv
              subst this
              rw [add_none, ext_cell ew hlt]
              simpa using hy
        · cases hq
      · cases hq
    · cases hq
end
end Go.AM
