/- The abstract machine, 14: regions that draw their order: whatever order, the state comes out as in one. -/
import Derived.Test.YtoecmmpjndcolaaDoorQm
set_option linter.unusedSimpArgs false
set_option linter.unusedVariables false
namespace Go.AM
open Go
section
variable {P : Program} {ops : Array Oper} {Q : Exit → Act → World → Prop} {n : Nat} {L : Array Bool → Act → World → Prop}
/-- Whatever order is picked: each operation of the head leaves all that was there as it was. -/
def anyE (P : Program) (ops : Array Oper) (Q : Exit → Act → World → Prop) (n : Nat) (L : Array Bool → Act → World → Prop) : Nat → Array Bool → Act → World → Prop
  | 0, s, a, w => L s a w
  | f + 1, s, a, w => Region.ready .any ops s ≠ [] ∧ ∀ i ∈ Region.ready .any ops s, i < n ∧ wpOp P ops Q i (fun a' w' => Ext w w' ∧ anyE P ops Q n L f (s.setIfInBounds i true) a' w') a w
theorem anyE_out {g : Nat} (hL : ∀ s a w, L s a w → wpAny P .any ops Q g s a w) : ∀ (f : Nat) (s : Array Bool) (a : Act) (w : World), anyE P ops Q n L f s a w → wpAny P .any ops Q (f + g) s a w
  | 0, s, a, w, h => by rw [Nat.zero_add]; exact hL _ _ _ h
  | f + 1, s, a, w, h => by
    rw [show f + 1 + g = (f + g) + 1 by omega]
    exact ⟨fun h0 => absurd h0 h.1, fun i hi => wpOp_mono (fun a' w' h' => anyE_out hL f _ a' w' h'.2) (h.2 i hi).2⟩
theorem yields_ext {oi : Oper} {v : Value} {a : Act} {w w' : World} (h : YieldsIf P ops (Ext w) oi v a) (e : Ext w w') : YieldsIf P ops (Ext w') oi v a :=
  h.imp (fun ⟨h1, h2⟩ => ⟨h1, fun x hx => h2 x (e.trans hx)⟩) id
theorem anyE_first {i : Nat} {oi : Oper} {v : Value} (hi : ops[i]? = some oi) (hsel : ∀ (j : Nat) (o : Oper) cs b, ops[j]? = some o → o.op ≠ .select cs b)
    (hQ : ∀ c a w, Q (.panic c) (a.put oi.dst v) w → Q (.panic c) a w) (hlt : ∀ s, HeadInv .any ops n s → ∀ i, i < n → s.getD i true = false → ∀ j ∈ Region.ready .any ops s, j < n) (hin : i < n)
    (hdone : ∀ s a w, L s a w → ∀ j ∈ Region.ready .any ops s, n ≤ j) : ∀ (f : Nat) (s : Array Bool) (a : Act) (w : World), HeadInv .any ops n s →
      (∀ j oj, ops[j]? = some oj → j ≠ i → s.getD j true = false → (∀ e ∈ oj.after, Region.binds .any e = true → e.on ≠ i) → oi.apart ops oj = true) →
      i ∈ Region.ready .any ops s → YieldsIf P ops (Ext w) oi v a → anyE P ops Q n L f (s.setIfInBounds i true) (a.put oi.dst v) w → anyE P ops Q n L (f + 1) s a w := by
  intro f
  induction f with
  | zero =>
    intro s a w inv _ hr hy H
    refine ⟨fun h => (by rw [h] at hr; cases hr), fun j hj => ?_⟩
    have hjn : j < n := hlt s inv i hin (mem_ready.1 hr).1 j hj
    by_cases hji : j = i
    · subst hji; exact ⟨hjn, hy.wpOp hi (Ext.refl w) ⟨Ext.refl w, H⟩⟩
    · have := hdone _ _ _ H j (ready_mono hj hji)
      omega
  | succ f ih =>
    intro s a w inv hfree hr hy H
    refine ⟨fun h => (by rw [h] at hr; cases hr), fun j hj => ?_⟩
    have hjn : j < n := hlt s inv i hin (mem_ready.1 hr).1 j hj
    refine ⟨hjn, ?_⟩
    by_cases hji : j = i
    · subst hji; exact hy.wpOp hi (Ext.refl w) ⟨Ext.refl w, H⟩
    · have h1 := (H.2 j (ready_mono hj hji)).2
      obtain ⟨hjun, oj, hoj, hall⟩ := mem_ready.1 hj
      have hiun := (mem_ready.1 hr).1
      have hnot : ∀ e ∈ oj.after, Region.binds .any e = true → e.on ≠ i := fun e he hb heq => by
        have h2 := hall e he hb
        rw [heq, getD_both hiun] at h2
        cases h2
      have h2 := wpOp_putIf hoj (hfree j oj hoj hji hjun hnot) (fun cs b => hsel i oi cs b hi) (fun cs b => hsel j oj cs b hoj) hQ hy h1
      refine wpOp_mono (fun a' w' h3 => ⟨h3.2.1, ih _ a' w' (inv.set hj hjn) (fun k ok hk hki hun hno => hfree k ok hk hki ?_ hno) (ready_mono hr (Ne.symm hji)) (yields_ext h3.1 h3.2.1) ?_⟩) h2
      · by_cases hjk : j = k
        · subst hjk; exact hjun
        · rwa [getD_set_ne true hjk] at hun
      · rw [Array.setIfInBounds_comm _ _ hji]
        exact h3.2.2
def tailE (P : Program) (ops : Array Oper) (Q : Exit → Act → World → Prop) (n : Nat) (s : Array Bool) (a : Act) (w : World) : Prop :=
  Region.seqB .any ops (ops.size - n) n s = true ∧ wpList P ops Q (ops.toList.drop n) a w
end
/-- Does an operation only reckon and read? -/
def isQ : Op → Bool
  | .call { callee := .builtin .len, .. } => true
  | .call _ | .box .. | .alloc _ | .buildSlice .. | .store .. | .makeSlice .. | .panic _ | .select .. => false
  | _ => true
def okOrd (ops : Array Oper) (n : Nat) : List Nat → Array Bool → Bool
  | [], s => Region.seqB .any ops (ops.size - n) n s
  | i :: r, s => decide (i < n) && (match ops[i]? with
    | some o => if isQ o.op = true then (Region.ready .any ops s).contains i && Region.free .any ops s i else decide (Region.ready .any ops s = [i])
    | none => false) && okOrd ops n r (s.setIfInBounds i true)
def okDraw (ops : Array Oper) (n : Nat) (ord : List Nat) : Bool :=
  Region.noSelect ops && (decide (n = ops.size) || (Region.sinkB .any ops n && Region.chainB .any ops n && decide (n < ops.size))) && decide (ord.length = n) && okOrd ops n ord (Array.replicate ops.size false)
/-- A step that leaves all that was there as it was. -/
def stepG (P : Program) (E : Env) (N : Nat) (st : AS) (op : Op) (k kp : AV → AS → Prop) : Prop :=
  match op with
  | .call { callee := .value f, args, .. } => bindF (ev st E.G f) (evs st E.G args.toList) (fun g xs => CallG P E N g xs st k kp)
  | .box T x => bindE (effR P E.G st (.box T x)) k
  | .alloc T => bindE (effR P E.G st (.alloc T)) k
  | .buildSlice T n ps => bindE (effR P E.G st (.buildSlice T n ps)) k
  | .makeSlice T l c => bindE (effR P E.G st (.makeSlice T l c)) k
  | op => isQ op = true ∧ bindO (qv P E.G st op) (fun v => k v st)
def execD (P : Program) (E : Env) (N : Nat) (ds : List (Option Nat)) (kp : AV → AS → Prop) (tail : List Oper) : List Oper → AS → (AS → Prop) → Prop
  | [], st, K => exec P E N ds kp tail st K
  | o :: rest, st, K => branch (gvOf ds st o.guard) (stepG P E N st o.op (fun v st' => execD P E N ds kp tail rest (st'.put o.dst v) K) kp) (execD P E N ds kp tail rest (st.put o.dst (.r (.tuple #[]))) K)
def ordOf (ops : Array Oper) (ord : List Nat) : List Oper := ord.filterMap (ops[·]?)
section
variable {P : Program} {E : Env} {N : Nat} {st : AS} {th : List NLoc} {z : Zone} {a : Act} {w : World}
theorem stepG_sound (h : Sim E N st th z a w) (o : Oper) {k kp : AV → AS → Prop} (hk : stepG P E N st o.op k kp) (hd : ∀ i, o.dst = some i → i < N) {next : Act → World → Prop} {Q : Exit → Act → World → Prop}
    (hn : ∀ x st' th' z' a' w', k x st' → Sim E N (st'.put o.dst x) th' z' a' w' → Ext w w' → next a' w') (hp : ∀ x v st' th' z' w', kp x st' → Sim E N st' th' z' a w' → Rep w' z' th' x v → Q (.panic [{ v := v, recovered := false }]) a w') : o.wp P a w next Q := by
  obtain ⟨dst, op, ty, pos, aft, gd⟩ := o
  simp only at hk
  unfold stepG at hk
  split at hk
  · rename_i f args ats
    unfold bindF at hk
    split at hk
    · rename_i g caps xs hf hx
      obtain ⟨hok, hc⟩ := hk
      have hf' := ev_sound h hf
      generalize hv : a.eval f = fv at hf'
      cases hf' with
      | fn _ _ _ ys hl hxx =>
        have hr := (evs_sound h hx).append ⟨hl, hxx⟩
        have hcall := hc th z a w _ h hr
        unfold Oper.wp
        have hrun : (execOp a.eval ⟨dst, .call { callee := .value f, args := args, argTypes := ats }, ty, pos, aft, gd⟩).run P w = .ok (.enter g (List.map a.eval args.toList ++ ys).toArray) w := by
          simp only [execOp, resolve, hv, Deferred.ofValue, Sem.run_bind, Sem.run_pure, Result.andThen_ok, invoke]
          rw [run_callFunc hok]
          congr 2
          apply Array.ext'; simp
        rw [hrun, Oper.upon_enter]
        refine hcall.mono ?_
        rintro e w' ⟨v, x, st', th', z', hh, hm, hs, hrr, _, hext⟩
        have hext := hext.ext
        rcases hh with ⟨rfl, hk⟩ | ⟨rfl, hk⟩
        · exact hn x st' th' z' _ w' hk (hs.put hrr dst hd) hext
        · exact hp x v st' th' z' w' hk hs hrr
    · exact hk.elim
  · exact upon_of_eff (eff_box h (eff_eq _ _ _ _ _ hk)) hd (fun x st' th' z' a' w' h1 _ h2 h3 => hn x st' th' z' a' w' h1 h2 (h3 rfl))
  · exact upon_of_eff (eff_alloc h (eff_eq _ _ _ _ _ hk)) hd (fun x st' th' z' a' w' h1 _ h2 h3 => hn x st' th' z' a' w' h1 h2 (h3 rfl))
  · exact upon_of_eff (eff_buildSlice h (eff_eq _ _ _ _ _ hk)) hd (fun x st' th' z' a' w' h1 _ h2 h3 => hn x st' th' z' a' w' h1 h2 (h3 rfl))
  · exact upon_of_eff (eff_makeSlice h (eff_eq _ _ _ _ _ hk)) hd (fun x st' th' z' a' w' h1 _ h2 h3 => hn x st' th' z' a' w' h1 h2 (h3 rfl))
  · obtain ⟨_, hk⟩ := hk
    unfold bindO at hk
    split at hk
    · rename_i v hq
      obtain ⟨u, hr, hrun⟩ := qv_sound h ⟨dst, op, ty, pos, aft, gd⟩ hq
      unfold Oper.wp
      rw [hrun w SameK.refl, Oper.upon_value]
      exact hn v st th z _ w hk (h.put hr dst hd) (Ext.refl w)
    · exact hk.elim
theorem stepG_quiet {op : Op} {k kp : AV → AS → Prop} (hq : isQ op = true) (hk : stepG P E N st op k kp) : ∃ v, qv P E.G st op = some v ∧ k v st := by
  unfold stepG at hk
  split at hk
  · simp [isQ] at hq
  · simp [isQ] at hq
  · simp [isQ] at hq
  · simp [isQ] at hq
  · simp [isQ] at hq
  · obtain ⟨_, hk⟩ := hk
    unfold bindO at hk
    split at hk
    · rename_i v hv; exact ⟨v, hv, hk⟩
    · exact hk.elim
theorem execD_sound {ops : Array Oper} {kp : AV → AS → Prop} {Q : Exit → Act → World → Prop} {K : AS → Prop} {n : Nat} (hQ : ∀ c a d v w, Q (.panic c) (a.put d v) w → Q (.panic c) a w)
    (hp : ∀ x v st' th' z' a' w', kp x st' → Sim E N st' th' z' a' w' → Rep w' z' th' x v → Q (.panic [{ v := v, recovered := false }]) a' w')
    (hK : ∀ st' th' z' a' w', K st' → Sim E N st' th' z' a' w' → Q .normal a' w') (hd : ∀ o ∈ ops.toList, ∀ i, o.dst = some i → i < N)
    (h1 : Region.noSelect ops = true) (h2 : ∀ s, HeadInv .any ops n s → ∀ i, i < n → s.getD i true = false → ∀ j ∈ Region.ready .any ops s, j < n) :
    ∀ (ord : List Nat) {s : Array Bool} {st : AS} {th : List NLoc} {z : Zone} {a : Act} {w : World}, HeadInv .any ops n s → okOrd ops n ord s = true → Sim E N st th z a w → execD P E N (dsOf ops) kp (ops.toList.drop n) (ordOf ops ord) st K → anyE P ops Q n (tailE P ops Q n) ord.length s a w
  | [], s, st, th, z, a, w, inv, ho, h, hx => ⟨ho, exec_sound hp hK _ (fun o ho => hd o (List.mem_of_mem_drop ho)) h hx⟩
  | i :: rest, s, st, th, z, a, w, inv, ho, h, hx => by
    simp only [okOrd, Bool.and_eq_true, decide_eq_true_eq] at ho
    obtain ⟨⟨hin, ho1⟩, ho2⟩ := ho
    cases hi : ops[i]? with
    | none => rw [hi] at ho1; simp at ho1
    | some o =>
      simp only [ordOf, List.filterMap_cons, hi] at hx
      unfold execD at hx
      change branch _ (stepG P E N st o.op (fun v st' => execD P E N (dsOf ops) kp (ops.toList.drop n) (ordOf ops rest) (st'.put o.dst v) K) kp) (execD P E N (dsOf ops) kp (ops.toList.drop n) (ordOf ops rest) (st.put o.dst (.r (.tuple #[]))) K) at hx
      have hmem : o ∈ ops.toList := Array.mem_toList_iff.2 (Array.mem_of_getElem? hi)
      have hdo := hd o hmem
      simp only [hi] at ho1
      have ih : ∀ {s : Array Bool} {st : AS} {th : List NLoc} {z : Zone} {a : Act} {w : World}, HeadInv .any ops n s → okOrd ops n rest s = true → Sim E N st th z a w → execD P E N (dsOf ops) kp (ops.toList.drop n) (ordOf ops rest) st K → anyE P ops Q n (tailE P ops Q n) rest.length s a w :=
        execD_sound hQ hp hK hd h1 h2 rest
      have guard := guard_sound h hx
      split at ho1
      · rename_i hq
        simp only [Bool.and_eq_true] at ho1
        obtain ⟨hr, hf⟩ := ho1
        have hr' : i ∈ Region.ready .any ops s := by simpa using hr
        rcases guard with ⟨hw, hs⟩ | ⟨hw, hs⟩
        · obtain ⟨x, hqv, hs⟩ := stepG_quiet hq hs
          obtain ⟨v, hrep, hrun⟩ := qv_sound h o hqv
          exact anyE_first hi (Region.noSelect_spec h1) (fun c a w => hQ c a _ _ w) h2 hin (fun s a w hL => seqB_ready hL.1) _ s a w inv (Region.free_spec hi hf) hr' (.inl ⟨hw, fun w' e => hrun w' (e.sameK h)⟩)
            (ih (inv.set hr' hin) ho2 (h.put hrep o.dst hdo) hs)
        · exact anyE_first hi (Region.noSelect_spec h1) (fun c a w => hQ c a _ _ w) h2 hin (fun s a w hL => seqB_ready hL.1) _ s a w inv (Region.free_spec hi hf) hr' (.inr ⟨hw, rfl⟩)
            (ih (inv.set hr' hin) ho2 (h.put (.r th undef) o.dst hdo) hs)
      · simp only [decide_eq_true_eq] at ho1
        have hr' : i ∈ Region.ready .any ops s := by rw [ho1]; simp
        refine ⟨fun h0 => (by rw [h0] at hr'; cases hr'), fun j hj => ?_⟩
        rw [ho1] at hj
        obtain rfl : j = i := by simpa using hj
        refine ⟨hin, ?_⟩
        unfold wpOp
        simp only [hi]
        rcases guard with ⟨hw, hs⟩ | ⟨hw, hs⟩
        · rw [if_pos hw]
          exact .inl (stepG_sound h o hs hdo (fun x st' th' z' a' w' g1 g2 g3 => ⟨g3, ih (inv.set hr' hin) ho2 g2 g1⟩) (fun x v st' th' z' w' g1 g2 g3 => hp x v st' th' z' a w' g1 g2 g3))
        · rw [if_neg (by rw [hw]; exact Bool.false_ne_true)]
          exact ⟨Ext.refl w, ih (inv.set hr' hin) ho2 (h.put (.r th undef) o.dst hdo) hs⟩
theorem ext_drew (w : World) : Ext w w.drew := ⟨Nat.le_refl _, fun _ _ => rfl, ⟨rfl, rfl, rfl⟩⟩
theorem awp_draw {id : Nat} {ops : Array Oper} {AQ : AExit → AS → Prop} {ds : List (Option Nat)} {l l' : List Oper} (hm : P.follows .mixedOrders = true) (n : Nat) (ord : List Nat) (hB : okDraw ops n ord = true) (hd : dstOK N ops = true)
    (hds : dsOf ops = ds) (ht : ops.toList.drop n = l') (hh : ordOf ops ord = l) (h : execD P E N ds (fun x st => AQ (.pan x) st) l' l st (AQ .normal)) : AWP P E N (.region id ops true) st AQ := by
  subst hds ht hh
  intro Q hQ th z a w hs
  simp only [okDraw, Bool.and_eq_true, decide_eq_true_eq] at hB
  obtain ⟨⟨⟨b1, b2⟩, b5⟩, b6⟩ := hB
  have hle : n ≤ ops.size := by
    rcases Bool.or_eq_true _ _ ▸ b2 with b2 | b2
    · exact Nat.le_of_eq (of_decide_eq_true b2)
    · simp only [Bool.and_eq_true, decide_eq_true_eq] at b2; exact Nat.le_of_lt b2.2
  have hlt : ∀ s, HeadInv .any ops n s → ∀ i, i < n → s.getD i true = false → ∀ j ∈ Region.ready .any ops s, j < n := by
    intro s inv i hi hs j hj
    rcases Bool.or_eq_true _ _ ▸ b2 with b2 | b2
    · have := of_decide_eq_true b2
      obtain ⟨_, oj, hoj, _⟩ := mem_ready.1 hj
      rw [this]; exact (Array.getElem?_eq_some_iff.1 hoj).1
    · simp only [Bool.and_eq_true, decide_eq_true_eq] at b2
      by_cases h : j < n
      · exact h
      · exact absurd hj (tail_waits b2.1.1 b2.1.2 b2.2 inv _ i rfl hi hs j (by omega))
  let Q' : Exit → Act → World → Prop := fun e a w => match e with
    | .panic c => ∀ a' : Act, a'.defers = a.defers → Q (.panic c) a' w
    | e => Q e a w
  refine wp_mono (Q := Q') ?_ (fun e a w hq => by
    cases e
    case panic c => exact hq a rfl
    all_goals exact hq)
  have inv0 : HeadInv .any ops n (Array.replicate ops.size false) :=
    ⟨by simp, fun j oj _ hl => (by rw [getD_replicate_false] at hl; cases hl), fun t _ ht => getD_in (by simpa using ht) (getD_replicate_false _ _)⟩
  refine wp_region_any hm ?_
  have key := execD_sound (Q := Q') (K := AQ .normal) (kp := fun x st => AQ (.pan x) st) (P := P) (fun c a d v w hq a' ha => hq a' (by rw [ha]; cases d <;> rfl)) (fun x v st' th' z' a' w' g1 g2 g3 a2 ha => hQ.2.2.2 x v st' th' z' w' g1 g2.mem g3 a2 (ha.trans g2.dfs))
    (fun st' th' z' a' w' g1 g2 => hQ.1 st' th' z' a' w' g1 g2) (dstOK_spec hd) b1 hlt ord inv0 b6 (hs.ext (ext_drew w)) h
  have := anyE_out (g := ops.size - n) (fun s a w hL => by
    have := wpAny_of_seq (md := .any) (Q' := Q') (ops.toList.drop n) n s a w (fun j => by simp [List.getElem?_drop]) (by simpa using hL.1) hL.2
    simpa using this) _ _ _ _ key
  rw [b5, show n + (ops.size - n) = ops.size by omega] at this
  exact this
end
end Go.AM
