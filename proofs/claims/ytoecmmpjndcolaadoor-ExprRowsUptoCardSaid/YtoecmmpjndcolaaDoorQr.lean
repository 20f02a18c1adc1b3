/- The abstract machine, 18: regions that draw their order, with stores and appends among what is drawn. -/
import Derived.Test.YtoecmmpjndcolaaDoorQp
set_option linter.unusedSimpArgs false
set_option linter.unusedVariables false
namespace Go.AM
open Go
structure ExtX (X : Nat → Prop) (w w' : World) : Prop where
  size : w.heap.size ≤ w'.heap.size
  same : ∀ b, b < w.heap.size → ¬ X b → w'.heap[b]? = w.heap[b]?
  sys : Sys w w'
theorem ExtX.refl (X : Nat → Prop) (w : World) : ExtX X w w := ⟨Nat.le_refl _, fun _ _ _ => rfl, Sys.refl w⟩
theorem ExtX.trans {X : Nat → Prop} {a b c : World} (h : ExtX X a b) (h' : ExtX X b c) : ExtX X a c := ⟨Nat.le_trans h.size h'.size, fun x hx hn => (h'.same x (Nat.lt_of_lt_of_le hx h.size) hn).trans (h.same x hx hn), h.sys.trans h'.sys⟩
section
variable {P : Program} {ops : Array Oper} {Q : Exit → Act → World → Prop} {n : Nat} {L : Array Bool → Act → World → Prop} {X : Nat → Prop}
def anyX (P : Program) (ops : Array Oper) (Q : Exit → Act → World → Prop) (n : Nat) (X : Nat → Prop) (L : Array Bool → Act → World → Prop) : Nat → Array Bool → Act → World → Prop
  | 0, s, a, w => L s a w
  | f + 1, s, a, w => Region.ready .any ops s ≠ [] ∧ ∀ i ∈ Region.ready .any ops s, i < n ∧ wpOp P ops Q i (fun a' w' => ExtX X w w' ∧ anyX P ops Q n X L f (s.setIfInBounds i true) a' w') a w
theorem anyX_out {g : Nat} (hL : ∀ s a w, L s a w → wpAny P .any ops Q g s a w) : ∀ (f : Nat) (s : Array Bool) (a : Act) (w : World), anyX P ops Q n X L f s a w → wpAny P .any ops Q (f + g) s a w
  | 0, s, a, w, h => by rw [Nat.zero_add]; exact hL _ _ _ h
  | f + 1, s, a, w, h => by
    rw [show f + 1 + g = (f + g) + 1 by omega]
    exact ⟨fun h0 => absurd h0 h.1, fun i hi => wpOp_mono (fun a' w' h' => anyX_out hL f _ a' w' h'.2) (h.2 i hi).2⟩
theorem yields_extX {oi : Oper} {v : Value} {a : Act} {w w' : World} (h : YieldsIf P ops (ExtX X w) oi v a) (e : ExtX X w w') : YieldsIf P ops (ExtX X w') oi v a :=
  h.imp (fun ⟨h1, h2⟩ => ⟨h1, fun x hx => h2 x (e.trans hx)⟩) id
theorem anyX_first {i : Nat} {oi : Oper} {v : Value} (hi : ops[i]? = some oi) (hsel : ∀ (j : Nat) (o : Oper) cs b, ops[j]? = some o → o.op ≠ .select cs b)
    (hQ : ∀ c a w, Q (.panic c) (a.put oi.dst v) w → Q (.panic c) a w) (hlt : ∀ s, HeadInv .any ops n s → ∀ i, i < n → s.getD i true = false → ∀ j ∈ Region.ready .any ops s, j < n) (hin : i < n)
    (hdone : ∀ s a w, L s a w → ∀ j ∈ Region.ready .any ops s, n ≤ j) : ∀ (f : Nat) (s : Array Bool) (a : Act) (w : World), HeadInv .any ops n s →
      (∀ j oj, ops[j]? = some oj → j ≠ i → s.getD j true = false → (∀ e ∈ oj.after, Region.binds .any e = true → e.on ≠ i) → oi.apart ops oj = true) →
      i ∈ Region.ready .any ops s → YieldsIf P ops (ExtX X w) oi v a → anyX P ops Q n X L f (s.setIfInBounds i true) (a.put oi.dst v) w → anyX P ops Q n X L (f + 1) s a w := by
  intro f
  induction f with
  | zero =>
    intro s a w inv _ hr hy H
    refine ⟨fun h => (by rw [h] at hr; cases hr), fun j hj => ?_⟩
    have hjn : j < n := hlt s inv i hin (mem_ready.1 hr).1 j hj
    by_cases hji : j = i
    · subst hji; exact ⟨hjn, hy.wpOp hi (ExtX.refl X w) ⟨ExtX.refl X w, H⟩⟩
    · have := hdone _ _ _ H j (ready_mono hj hji)
      omega
  | succ f ih =>
    intro s a w inv hfree hr hy H
    refine ⟨fun h => (by rw [h] at hr; cases hr), fun j hj => ?_⟩
    have hjn : j < n := hlt s inv i hin (mem_ready.1 hr).1 j hj
    refine ⟨hjn, ?_⟩
    by_cases hji : j = i
    · subst hji; exact hy.wpOp hi (ExtX.refl X w) ⟨ExtX.refl X w, H⟩
    · have h1 := (H.2 j (ready_mono hj hji)).2
      obtain ⟨hjun, oj, hoj, hall⟩ := mem_ready.1 hj
      have hiun := (mem_ready.1 hr).1
      have hnot : ∀ e ∈ oj.after, Region.binds .any e = true → e.on ≠ i := fun e he hb heq => by
        have h2 := hall e he hb
        rw [heq, getD_both hiun] at h2
        cases h2
      have h2 := wpOp_putIf hoj (hfree j oj hoj hji hjun hnot) (fun cs b => hsel i oi cs b hi) (fun cs b => hsel j oj cs b hoj) hQ hy h1
      refine wpOp_mono (fun a' w' h3 => ⟨h3.2.1, ih _ a' w' (inv.set hj hjn) (fun k ok hk hki hun hno => hfree k ok hk hki ?_ hno) (ready_mono hr (Ne.symm hji)) (yields_extX h3.1 h3.2.1) ?_⟩) h2
      · by_cases hjk : j = k
        · subst hjk; exact hjun
        · rwa [getD_set_ne true hjk] at hun
      · rw [Array.setIfInBounds_comm _ _ hji]
        exact h3.2.2
end
/-- A state of which own things are hidden. -/
def hid (ws : List Nat) (st : AS) : AS := { st with o := rmL ws st.o }
def prs (ws : List Nat) (st : AS) : Bool := ws.all fun i => (lk st.o i).isSome
def tchOK (ws ts : List Nat) : Bool := ts.all fun t => ws.contains t
def runX (P : Program) (E : Env) (N : Nat) (ws ts : List Nat) (r : SR) (st : AS) (k kp : AV → AS → Prop) : Prop := match r with
  | .cond c v st' => (tchOK ws ts = true ∧ c) ∧ k v st'
  | .call g xs => ∃ ts, (∀ t ∈ ts, t ∈ ws) ∧ CallT P E N g xs st ts k kp
  | _ => False
def runQ (r : SR) (st : AS) (k : AV → AS → Prop) : Prop := match r with
  | .val v _ => k v st
  | _ => False
def exX (P : Program) (E : Env) (N : Nat) (ws : List Nat) (ds : List (Option Nat)) (kp : AV → AS → Prop) (tail : List Oper) : List Oper → AS → (AS → Prop) → Prop
  | [], st, K => ex P E N ds kp tail st K
  | o :: rest, st, K => match gvOf ds st o.guard with
    | .yes => match isQ o.op with
      | true => prs ws st = true ∧ runQ (stepR P E.G (hid ws st) o.op) st (fun v st' => exX P E N ws ds kp tail rest (st'.put o.dst v) K)
      | false => runX P E N ws (tch st E.G o.op) (stepR P E.G st o.op) st (fun v st' => exX P E N ws ds kp tail rest (st'.put o.dst v) K) kp
    | .no => exX P E N ws ds kp tail rest (st.put o.dst (.r (.tuple #[]))) K
    | _ => False
section
variable {P : Program} {E : Env} {N : Nat} {st : AS} {th : List NLoc} {z : Zone} {a : Act} {w : World}
theorem upon_of_eff' {o : Oper} {k : AV → AS → Prop} {b : Bool} {ts : List Nat} {next : Act → World → Prop} {Q : Exit → Act → World → Prop} (he : Eff P E N o a w th ts st.m k b) (hd : ∀ i, o.dst = some i → i < N)
    (hn : ∀ x st' th' z' a' w', k x st' → Sim E N (st'.put o.dst x) th' z' a' w' → Later th th' → ExtT th ts w w' → next a' w') : o.wp P a w next Q := by
  obtain ⟨v, x, st', th', z', w', hrun, hk, hs, hr, hm, _, hl, hx⟩ := he
  unfold Oper.wp
  rcases hrun with hrun | ⟨hrun, rfl⟩
  · rw [hrun, Oper.upon_value]; exact hn x st' th' z' _ w' hk (hs.put hr o.dst hd) hl hx
  · rw [hrun, Oper.upon_skip]; exact hn x st' th' z' _ w' hk (hs.put hr o.dst hd) hl hx
theorem runX_ofE {ws ts : List Nat} {x : Option (Prop × AV × AS)} {k kp : AV → AS → Prop} (h : runX P E N ws ts (ofE x) st k kp) : tchOK ws ts = true ∧ bindE x k := by
  cases x with
  | none => exact h.elim
  | some v => exact ⟨h.1.1, h.1.2, h.2⟩
theorem runX_ofO {ws ts : List Nat} {x : Option AV} {k kp : AV → AS → Prop} (h : runX P E N ws ts (ofO st x) st k kp) : False := by
  cases x with
  | none => exact h
  | some v => exact h
theorem tchOK_mem {ws ts : List Nat} (h : tchOK ws ts = true) : ∀ t ∈ ts, t ∈ ws := by
  intro t ht
  simpa using List.all_eq_true.1 h t ht
theorem stepX_sound (h : Sim E N st th z a w) {ws : List Nat} (o : Oper) {k kp : AV → AS → Prop} (hk : runX P E N ws (tch st E.G o.op) (stepR P E.G st o.op) st k kp) (hd : ∀ i, o.dst = some i → i < N) {next : Act → World → Prop} {Q : Exit → Act → World → Prop}
    (hn : ∀ x st' th' z' a' w' ts, k x st' → Sim E N (st'.put o.dst x) th' z' a' w' → Later th th' → ExtT th ts w w' → (∀ t ∈ ts, t ∈ ws) → next a' w') (hp : ∀ x v st' th' z' w', kp x st' → Sim E N st' th' z' a w' → Rep w' z' th' x v → Q (.panic [{ v := v, recovered := false }]) a w') : o.wp P a w next Q := by
  obtain ⟨dst, op, ty, pos, aft, gd⟩ := o
  simp only at hk
  cases op
  case call c =>
    obtain ⟨callee, args, ats⟩ := c
    cases callee with
    | value f =>
      change runX P E N ws _ (ofF (ev st E.G f) (evs st E.G args.toList)) st k kp at hk
      unfold ofF at hk
      split at hk
      · rename_i g caps xs hf hx
        obtain ⟨ts, hts, hok, hc⟩ := hk
        have hf' := ev_sound h hf
        generalize hv : a.eval f = fv at hf'
        cases hf' with
        | fn _ _ _ ys hl hxx =>
          have hr := (evs_sound h hx).append ⟨hl, hxx⟩
          have hcall := hc th z a w _ h hr
          unfold Oper.wp
          have hrun : (execOp a.eval ⟨dst, .call { callee := .value f, args := args, argTypes := ats }, ty, pos, aft, gd⟩).run P w = .ok (.enter g (List.map a.eval args.toList ++ ys).toArray) w := by
            simp only [execOp, resolve, hv, Deferred.ofValue, Sem.run_bind, Sem.run_pure, Result.andThen_ok, invoke]
            rw [run_callFunc hok]
            congr 2
            apply Array.ext'; simp
          rw [hrun, Oper.upon_enter]
          refine hcall.mono ?_
          rintro e w' ⟨v, x, st', th', z', hh, hm, hs, hrr, hl, hext⟩
          rcases hh with ⟨rfl, hk⟩ | ⟨rfl, hk⟩
          · exact hn x st' th' z' _ w' ts hk (hs.put hrr dst hd) hl hext hts
          · exact hp x v st' th' z' w' hk hs hrr
      · exact hk.elim
    | builtin b =>
      cases b
      case append =>
        obtain ⟨h1, h2⟩ := runX_ofE hk
        exact upon_of_eff' (eff_append h (eff_eq _ _ _ _ _ h2)) hd (fun x st' th' z' a' w' g1 g2 g3 g4 => hn x st' th' z' a' w' _ g1 g2 g3 g4 (tchOK_mem h1))
      all_goals (rw [stepR_call_else (by simp) (by simp)] at hk; exact (runX_ofO hk).elim)
    | invoke a b => rw [stepR_call_else (by simp) (by simp)] at hk; exact (runX_ofO hk).elim
  case panic x =>
    change runX P E N ws _ (ofP (ev st E.G x)) st k kp at hk
    unfold ofP at hk
    split at hk <;> exact hk.elim
  case box => exact upon_of_eff' (eff_box h (eff_eq _ _ _ _ _ (runX_ofE hk).2)) hd (fun x st' th' z' a' w' g1 g2 g3 g4 => hn x st' th' z' a' w' _ g1 g2 g3 g4 (fun t ht => by cases ht))
  case alloc => exact upon_of_eff' (eff_alloc h (eff_eq _ _ _ _ _ (runX_ofE hk).2)) hd (fun x st' th' z' a' w' g1 g2 g3 g4 => hn x st' th' z' a' w' _ g1 g2 g3 g4 (fun t ht => by cases ht))
  case buildSlice => exact upon_of_eff' (eff_buildSlice h (eff_eq _ _ _ _ _ (runX_ofE hk).2)) hd (fun x st' th' z' a' w' g1 g2 g3 g4 => hn x st' th' z' a' w' _ g1 g2 g3 g4 (fun t ht => by cases ht))
  case store =>
    obtain ⟨h1, h2⟩ := runX_ofE hk
    exact upon_of_eff' (eff_store h (eff_eq _ _ _ _ _ h2)) hd (fun x st' th' z' a' w' g1 g2 g3 g4 => hn x st' th' z' a' w' _ g1 g2 g3 g4 (tchOK_mem h1))
  case makeSlice => exact upon_of_eff' (eff_makeSlice h (eff_eq _ _ _ _ _ (runX_ofE hk).2)) hd (fun x st' th' z' a' w' g1 g2 g3 g4 => hn x st' th' z' a' w' _ g1 g2 g3 g4 (fun t ht => by cases ht))
  all_goals first | exact (show False from hk).elim | exact (runX_ofO (st := st) (x := qv P E.G st _) hk).elim
/-- The blocks of the own things of these numbers. -/
def Xs (ws : List Nat) (th0 : List NLoc) (b : Nat) : Prop := ∃ i ∈ ws, ∃ L, th0[i]? = some L ∧ L.ph = false ∧ L.b = b
theorem kn_hid (h : Sim E N st th z a w) {ws : List Nat} {th0 : List NLoc} (hl : Later th0 th) (hp : prs ws st = true) {b : Nat} (hb : Kn (hid ws st) th z b) : ¬ Xs ws th0 b := by
  rintro ⟨i, hi, L, h1, h2, rfl⟩
  have hpi : (lk st.o i).isSome = true := List.all_eq_true.1 hp i hi
  obtain ⟨nd, hnd⟩ := Option.isSome_iff_exists.1 hpi
  have hL := hl i L h1
  obtain ⟨L', k1, _, k3⟩ := h.mem.nds i nd hnd
  rw [hL] at k1; cases k1
  rcases hb with ⟨t, hz⟩ | ⟨m, nd', M, g1, g2, g3, g4⟩
  · exact (k3 h2).2.1 t hz
  · have g1' : lk (rmL ws st.o) m = some nd' := g1
    rw [lk_rmL] at g1'
    split at g1'
    · cases g1'
    · rename_i hm
      have := h.mem.inj m i nd' nd M L g1' hnd g2 hL g3 h2 g4
      subst this
      exact hm hi
theorem sim_hid (h : Sim E N st th z a w) (ws : List Nat) : Sim E N (hid ws st) th z a w :=
  h.sub rfl (fun i x hi => by
    have hi' : lk (rmL ws st.o) i = some x := hi
    rw [lk_rmL] at hi'
    split at hi'
    · cases hi'
    · exact hi') (fun _ _ h => h)
theorem runQ_spec {op : Op} {st' : AS} {k : AV → AS → Prop} (hq : isQ op = true) (h : runQ (stepR P E.G st' op) st k) : ∃ v, qv P E.G st' op = some v ∧ k v st := by
  have key : ∀ x : Option AV, runQ (ofO st' x) st k → ∃ v, x = some v ∧ k v st := by
    intro x hx
    cases x with
    | none => exact hx.elim
    | some v => exact ⟨v, rfl, hx⟩
  cases op
  case call c =>
    obtain ⟨callee, args, ats⟩ := c
    cases callee with
    | value f => simp [isQ] at hq
    | builtin b => cases b <;> first | (simp [isQ] at hq; done) | (rw [stepR_call_else (by simp) (by simp)] at h; exact key _ h)
    | invoke a b => simp [isQ] at hq
  all_goals first | (simp [isQ] at hq; done) | exact (show False from h).elim | exact key _ h
theorem extX_of_t {ws ts : List Nat} {th0 : List NLoc} {w' : World} (hl : Later th0 th) (hpre : ∀ i ∈ ws, ∃ L, th0[i]? = some L) (hts : ∀ t ∈ ts, t ∈ ws) (h : ExtT th ts w w') : ExtX (Xs ws th0) w w' :=
  ⟨h.size, fun b hb hX => h.same b hb (fun n hn L hL hp e => by
    obtain ⟨L0, h0⟩ := hpre n (hts n hn)
    have := hl n L0 h0
    rw [hL] at this; cases this
    exact hX ⟨n, hts n hn, L, h0, hp, e⟩), h.sys⟩
theorem exX_sound {ops : Array Oper} {kp : AV → AS → Prop} {Q : Exit → Act → World → Prop} {K : AS → Prop} {n : Nat} {ws : List Nat} {th0 : List NLoc} (hpre : ∀ i ∈ ws, ∃ L, th0[i]? = some L) (hQ : ∀ c a d v w, Q (.panic c) (a.put d v) w → Q (.panic c) a w)
    (hp : ∀ x v st' th' z' a' w', kp x st' → Sim E N st' th' z' a' w' → Rep w' z' th' x v → Q (.panic [{ v := v, recovered := false }]) a' w')
    (hK : ∀ st' th' z' a' w', K st' → Sim E N st' th' z' a' w' → Q .normal a' w') (hd : ∀ o ∈ ops.toList, ∀ i, o.dst = some i → i < N)
    (h1 : Region.noSelect ops = true) (h2 : ∀ s, HeadInv .any ops n s → ∀ i, i < n → s.getD i true = false → ∀ j ∈ Region.ready .any ops s, j < n) :
    ∀ (ord : List Nat) {s : Array Bool} {st : AS} {th : List NLoc} {z : Zone} {a : Act} {w : World}, HeadInv .any ops n s → okOrd ops n ord s = true → Sim E N st th z a w → Later th0 th → exX P E N ws (dsOf ops) kp (ops.toList.drop n) (ordOf ops ord) st K → anyX P ops Q n (Xs ws th0) (tailE P ops Q n) ord.length s a w
  | [], s, st, th, z, a, w, inv, ho, h, hl, hx => ⟨ho, exec_sound hp hK _ (fun o ho => hd o (List.mem_of_mem_drop ho)) h (exec_of hx)⟩
  | i :: rest, s, st, th, z, a, w, inv, ho, h, hl, hx => by
    simp only [okOrd, Bool.and_eq_true, decide_eq_true_eq] at ho
    obtain ⟨⟨hin, ho1⟩, ho2⟩ := ho
    cases hi : ops[i]? with
    | none => rw [hi] at ho1; simp at ho1
    | some o =>
      simp only [ordOf, List.filterMap_cons, hi] at hx
      unfold exX at hx
      have hmem : o ∈ ops.toList := Array.mem_toList_iff.2 (Array.mem_of_getElem? hi)
      have hdo := hd o hmem
      simp only [hi] at ho1
      have ih : ∀ {s : Array Bool} {st : AS} {th : List NLoc} {z : Zone} {a : Act} {w : World}, HeadInv .any ops n s → okOrd ops n rest s = true → Sim E N st th z a w → Later th0 th → exX P E N ws (dsOf ops) kp (ops.toList.drop n) (ordOf ops rest) st K → anyX P ops Q n (Xs ws th0) (tailE P ops Q n) rest.length s a w :=
        exX_sound hpre hQ hp hK hd h1 h2 rest
      have hx' : branch (gvOf (dsOf ops) st o.guard) (match isQ o.op with
          | true => prs ws st = true ∧ runQ (stepR P E.G (hid ws st) o.op) st (fun v st' => exX P E N ws (dsOf ops) kp (ops.toList.drop n) (ordOf ops rest) (st'.put o.dst v) K)
          | false => runX P E N ws (tch st E.G o.op) (stepR P E.G st o.op) st (fun v st' => exX P E N ws (dsOf ops) kp (ops.toList.drop n) (ordOf ops rest) (st'.put o.dst v) K) kp) (exX P E N ws (dsOf ops) kp (ops.toList.drop n) (ordOf ops rest) (st.put o.dst (.r (.tuple #[]))) K) := by
        split at hx
        · rename_i e; rw [e]; exact hx
        · rename_i e; rw [e]; exact hx
        · exact hx.elim
      have guard := guard_sound h hx'
      split at ho1
      · rename_i hq
        simp only [Bool.and_eq_true] at ho1
        obtain ⟨hr, hf⟩ := ho1
        have hr' : i ∈ Region.ready .any ops s := by simpa using hr
        rcases guard with ⟨hw, hs⟩ | ⟨hw, hs⟩
        · rw [hq] at hs
          obtain ⟨hprs, hs⟩ := hs
          obtain ⟨x, hqv, hs⟩ := runQ_spec hq hs
          obtain ⟨v, hrep, hrun⟩ := qv_sound (sim_hid h ws) o hqv
          refine anyX_first hi (Region.noSelect_spec h1) (fun c a w => hQ c a _ _ w) h2 hin (fun s a w hL => seqB_ready hL.1) _ s a w inv (Region.free_spec hi hf) hr' (.inl ⟨hw, fun w' e => hrun w' (fun b hb => e.same b (hb.lt (sim_hid h ws)) (kn_hid h hl hprs hb))⟩)
            (ih (inv.set hr' hin) ho2 (h.put hrep o.dst hdo) hl hs)
        · exact anyX_first hi (Region.noSelect_spec h1) (fun c a w => hQ c a _ _ w) h2 hin (fun s a w hL => seqB_ready hL.1) _ s a w inv (Region.free_spec hi hf) hr' (.inr ⟨hw, rfl⟩)
            (ih (inv.set hr' hin) ho2 (h.put (.r th undef) o.dst hdo) hl hs)
      · rename_i hq
        have hq : isQ o.op = false := by simpa using hq
        simp only [decide_eq_true_eq] at ho1
        have hr' : i ∈ Region.ready .any ops s := by rw [ho1]; simp
        refine ⟨fun h0 => (by rw [h0] at hr'; cases hr'), fun j hj => ?_⟩
        rw [ho1] at hj
        obtain rfl : j = i := by simpa using hj
        refine ⟨hin, ?_⟩
        unfold wpOp
        simp only [hi]
        rcases guard with ⟨hw, hs⟩ | ⟨hw, hs⟩
        · rw [if_pos hw]
          rw [hq] at hs
          exact .inl (stepX_sound h o hs hdo (fun x st' th' z' a' w' ts g1 g2 g3 g4 g5 => ⟨extX_of_t hl hpre g5 g4, ih (inv.set hr' hin) ho2 g2 (hl.trans g3) g1⟩) (fun x v st' th' z' w' g1 g2 g3 => hp x v st' th' z' a w' g1 g2 g3))
        · rw [if_neg (by rw [hw]; exact Bool.false_ne_true)]
          exact ⟨ExtX.refl _ w, ih (inv.set hr' hin) ho2 (h.put (.r th undef) o.dst hdo) hl hs⟩
theorem awp_dx {id : Nat} {ops : Array Oper} {AQ : AExit → AS → Prop} {ds : List (Option Nat)} {l l' : List Oper} (hm : P.follows .mixedOrders = true) (ws : List Nat) (n : Nat) (ord : List Nat) (hB : okDraw ops n ord = true) (hd : dstOK N ops = true)
    (hds : dsOf ops = ds) (ht : ops.toList.drop n = l') (hh : ordOf ops ord = l) (hws : prs ws st = true) (h : ∀ (K : AS → Prop) (kp : AV → AS → Prop), (∀ st', AQ .normal st' → K st') → (∀ x st', AQ (.pan x) st' → kp x st') → exX P E N ws ds kp l' l st K) : AWP P E N (.region id ops true) st AQ := by
  subst hds ht hh
  have h := h (AQ .normal) (fun x st => AQ (.pan x) st) (fun _ h => h) (fun _ _ h => h)
  intro Q hQ th z a w hs
  simp only [okDraw, Bool.and_eq_true, decide_eq_true_eq] at hB
  obtain ⟨⟨⟨b1, b2⟩, b5⟩, b6⟩ := hB
  have hle : n ≤ ops.size := by
    rcases Bool.or_eq_true _ _ ▸ b2 with b2 | b2
    · exact Nat.le_of_eq (of_decide_eq_true b2)
    · simp only [Bool.and_eq_true, decide_eq_true_eq] at b2; exact Nat.le_of_lt b2.2
  have hlt : ∀ s, HeadInv .any ops n s → ∀ i, i < n → s.getD i true = false → ∀ j ∈ Region.ready .any ops s, j < n := by
    intro s inv i hi hs j hj
    rcases Bool.or_eq_true _ _ ▸ b2 with b2 | b2
    · have := of_decide_eq_true b2
      obtain ⟨_, oj, hoj, _⟩ := mem_ready.1 hj
      rw [this]; exact (Array.getElem?_eq_some_iff.1 hoj).1
    · simp only [Bool.and_eq_true, decide_eq_true_eq] at b2
      by_cases h : j < n
      · exact h
      · exact absurd hj (tail_waits b2.1.1 b2.1.2 b2.2 inv _ i rfl hi hs j (by omega))
  let Q' : Exit → Act → World → Prop := fun e a w => match e with
    | .panic c => ∀ a' : Act, a'.defers = a.defers → Q (.panic c) a' w
    | e => Q e a w
  refine wp_mono (Q := Q') ?_ (fun e a w hq => by
    cases e
    case panic c => exact hq a rfl
    all_goals exact hq)
  have inv0 : HeadInv .any ops n (Array.replicate ops.size false) :=
    ⟨by simp, fun j oj _ hl => (by rw [getD_replicate_false] at hl; cases hl), fun t _ ht => getD_in (by simpa using ht) (getD_replicate_false _ _)⟩
  refine wp_region_any hm ?_
  have hpre : ∀ i ∈ ws, ∃ L, th[i]? = some L := by
    intro i hi
    obtain ⟨nd, hnd⟩ := Option.isSome_iff_exists.1 (List.all_eq_true.1 hws i hi)
    obtain ⟨L, h1, _⟩ := hs.mem.nds i nd hnd
    exact ⟨L, h1⟩
  have key := exX_sound (Q := Q') (K := AQ .normal) (kp := fun x st => AQ (.pan x) st) (P := P) (th0 := th) hpre (fun c a d v w hq a' ha => hq a' (by rw [ha]; cases d <;> rfl)) (fun x v st' th' z' a' w' g1 g2 g3 a2 ha => hQ.2.2.2 x v st' th' z' w' g1 g2.mem g3 a2 (ha.trans g2.dfs))
    (fun st' th' z' a' w' g1 g2 => hQ.1 st' th' z' a' w' g1 g2) (dstOK_spec hd) b1 hlt ord inv0 b6 (hs.ext (ext_drew w)) (Later.refl th) h
  have := anyX_out (g := ops.size - n) (fun s a w hL => by
    have := wpAny_of_seq (md := .any) (Q' := Q') (ops.toList.drop n) n s a w (fun j => by simp [List.getElem?_drop]) (by simpa using hL.1) hL.2
    simpa using this) _ _ _ _ key
  rw [b5, show n + (ops.size - n) = ops.size by omega] at this
  exact this
end
@[go_sem] theorem iq_move (x : Operand) : isQ (.move x) = true := rfl
@[go_sem] theorem iq_assign (x : Operand) : isQ (.assign x) = true := rfl
@[go_sem] theorem iq_pick (c a b : Operand) : isQ (.pick c a b) = true := rfl
@[go_sem] theorem iq_load (T : TypeId) (x : Operand) : isQ (.load T x) = true := rfl
@[go_sem] theorem iq_nilCheck (x : Operand) : isQ (.nilCheck x) = true := rfl
@[go_sem] theorem iq_bin (op : BinOp) (T T' : TypeId) (x y : Operand) : isQ (.binOp op T x y T') = true := rfl
@[go_sem] theorem iq_un (op : UnOp) (T : TypeId) (x : Operand) : isQ (.unOp op T x) = true := rfl
@[go_sem] theorem iq_convert (s d : TypeId) (x : Operand) : isQ (.convert s d x) = true := rfl
@[go_sem] theorem iq_slice (T : TypeId) (x : Operand) (lo hi m : Option Operand) : isQ (.slice T x lo hi m) = true := rfl
@[go_sem] theorem iq_fieldAddr (T : TypeId) (x : Operand) (f : Nat) : isQ (.fieldAddr T x f) = true := rfl
@[go_sem] theorem iq_indexAddr (T : TypeId) (x i : Operand) : isQ (.indexAddr T x i) = true := rfl
@[go_sem] theorem iq_index (T : TypeId) (x i : Operand) : isQ (.index T x i) = true := rfl
@[go_sem] theorem iq_extract (t : Operand) (i : Nat) : isQ (.extract t i) = true := rfl
@[go_sem] theorem iq_build (T : TypeId) (ps : Array (Nat × Operand)) : isQ (.build T ps) = true := rfl
@[go_sem] theorem iq_len (args : Array Operand) (ats : Array TypeId) : isQ (.call { callee := .builtin .len, args := args, argTypes := ats }) = true := rfl
@[go_sem] theorem iq_box (T : TypeId) (x : Operand) : isQ (.box T x) = false := rfl
@[go_sem] theorem iq_alloc (T : TypeId) : isQ (.alloc T) = false := rfl
@[go_sem] theorem iq_buildSlice (T : TypeId) (n : Nat) (ps : Array (Nat × Operand)) : isQ (.buildSlice T n ps) = false := rfl
@[go_sem] theorem iq_store (T : TypeId) (x v : Operand) : isQ (.store T x v) = false := rfl
@[go_sem] theorem iq_makeSlice (T : TypeId) (l c : Operand) : isQ (.makeSlice T l c) = false := rfl
@[go_sem] theorem iq_value (f : Operand) (args : Array Operand) (ats : Array TypeId) : isQ (.call { callee := .value f, args := args, argTypes := ats }) = false := rfl
@[go_sem] theorem iq_append (args : Array Operand) (ats : Array TypeId) : isQ (.call { callee := .builtin .append, args := args, argTypes := ats }) = false := rfl
@[go_sem] theorem tch_box (st : AS) (G : List (Nat × List Value)) (T : TypeId) (x : Operand) : tch st G (.box T x) = [] := rfl
@[go_sem] theorem tch_alloc (st : AS) (G : List (Nat × List Value)) (T : TypeId) : tch st G (.alloc T) = [] := rfl
@[go_sem] theorem tch_buildSlice (st : AS) (G : List (Nat × List Value)) (T : TypeId) (n : Nat) (ps : Array (Nat × Operand)) : tch st G (.buildSlice T n ps) = [] := rfl
@[go_sem] theorem tch_makeSlice (st : AS) (G : List (Nat × List Value)) (T : TypeId) (l c : Operand) : tch st G (.makeSlice T l c) = [] := rfl
@[go_sem] theorem tch_value (st : AS) (G : List (Nat × List Value)) (f : Operand) (args : Array Operand) (ats : Array TypeId) : tch st G (.call { callee := .value f, args := args, argTypes := ats }) = [] := rfl
def tchP : Option AV → List Nat
  | some (.p n _ _) => [n]
  | _ => []
def tchS : Option (List AV) → List Nat
  | some (.s n _ _ :: _) => [n]
  | _ => []
@[go_sem] theorem tch_store (st : AS) (G : List (Nat × List Value)) (T : TypeId) (x v : Operand) : tch st G (.store T x v) = tchP (ev st G x) := rfl
@[go_sem] theorem tch_append (st : AS) (G : List (Nat × List Value)) (args : Array Operand) (ats : Array TypeId) : tch st G (.call { callee := .builtin .append, args := args, argTypes := ats }) = tchS (evs st G args.toList) := rfl
attribute [go_sem] tchP tchS
section
variable (P : Program) (E : Env) (N : Nat) (ws : List Nat) (ds : List (Option Nat)) (kp : AV → AS → Prop) (tail rest : List Oper) (st : AS) (K : AS → Prop)
def goGX (g : GV) (d : Option Nat) (op : Op) : Prop := match g with
  | .yes => match isQ op with
    | true => prs ws st = true ∧ runQ (stepR P E.G (hid ws st) op) st (fun v st' => exX P E N ws ds kp tail rest (st'.put d v) K)
    | false => runX P E N ws (tch st E.G op) (stepR P E.G st op) st (fun v st' => exX P E N ws ds kp tail rest (st'.put d v) K) kp
  | .no => exX P E N ws ds kp tail rest (st.put d (.r (.tuple #[]))) K
  | _ => False
def goX (q : Bool) (d : Option Nat) (op : Op) : Prop := match q with
  | true => prs ws st = true ∧ runQ (stepR P E.G (hid ws st) op) st (fun v st' => exX P E N ws ds kp tail rest (st'.put d v) K)
  | false => runX P E N ws (tch st E.G op) (stepR P E.G st op) st (fun v st' => exX P E N ws ds kp tail rest (st'.put d v) K) kp
def goXQ (r : SR) (d : Option Nat) : Prop := runQ r st (fun v st' => exX P E N ws ds kp tail rest (st'.put d v) K)
def goXW (ts : List Nat) (r : SR) (d : Option Nat) : Prop := runX P E N ws ts r st (fun v st' => exX P E N ws ds kp tail rest (st'.put d v) K) kp
def callX (g : Nat) (xs : List AV) (d : Option Nat) : Prop := ∃ ts, (∀ t ∈ ts, t ∈ ws) ∧ CallT P E N g xs st ts (fun v st' => exX P E N ws ds kp tail rest (st'.put d v) K) kp
@[go_sem] theorem exX_nil : exX P E N ws ds kp tail [] st K = ex P E N ds kp tail st K := rfl
@[go_sem] theorem exX_cons (d : Option Nat) (op : Op) (t : TypeId) (p : String) (af : Array Edge) (g : Option (Nat × Bool)) : exX P E N ws ds kp tail (⟨d, op, t, p, af, g⟩ :: rest) st K = goGX P E N ws ds kp tail rest st K (gvOf ds st g) d op := rfl
@[go_sem] theorem goGX_yes (d : Option Nat) (op : Op) : goGX P E N ws ds kp tail rest st K .yes d op = goX P E N ws ds kp tail rest st K (isQ op) d op := rfl
@[go_sem] theorem goGX_no (d : Option Nat) (op : Op) : goGX P E N ws ds kp tail rest st K .no d op = exX P E N ws ds kp tail rest (st.put d (.r (.tuple #[]))) K := rfl
@[go_sem] theorem goX_t (d : Option Nat) (op : Op) : goX P E N ws ds kp tail rest st K true d op = (prs ws st = true ∧ goXQ P E N ws ds kp tail rest st K (stepR P E.G (hid ws st) op) d) := rfl
@[go_sem] theorem goX_f (d : Option Nat) (op : Op) : goX P E N ws ds kp tail rest st K false d op = goXW P E N ws ds kp tail rest st K (tch st E.G op) (stepR P E.G st op) d := rfl
@[go_sem] theorem goXQ_val (d : Option Nat) (v : AV) (s : AS) : goXQ P E N ws ds kp tail rest st K (.val v s) d = exX P E N ws ds kp tail rest (st.put d v) K := rfl
@[go_sem] theorem goXW_cond (ts : List Nat) (d : Option Nat) (c : Prop) (v : AV) (s : AS) : goXW P E N ws ds kp tail rest st K ts (.cond c v s) d = ((tchOK ws ts = true ∧ c) ∧ exX P E N ws ds kp tail rest (s.put d v) K) := rfl
@[go_sem] theorem goXW_call (ts : List Nat) (d : Option Nat) (g : Nat) (xs : List AV) : goXW P E N ws ds kp tail rest st K ts (.call g xs) d = callX P E N ws ds kp tail rest st K g xs d := rfl
end
theorem gvOf_ask (ds : List (Option Nat)) (st : AS) : gvOf ds st none = .yes := rfl
attribute [go_sem] hid prs tchOK rmL List.foldl_cons List.foldl_nil List.contains_cons List.contains_nil Option.isSome_some Option.isSome_none
section
variable {P : Program} {E : Env} {N : Nat} {ws : List Nat} {ds : List (Option Nat)} {kp : AV → AS → Prop} {tail rest : List Oper} {st : AS} {K : AS → Prop} {d : Option Nat}
theorem callX_r {f : Nat} {xs ys : List AV} {v : Value} (hc : Con P E.G f ys [] 0 (Is (.r v) [] 0) No) (hb : borL st xs = some ys) (hk : exX P E N ws ds kp tail rest (st.put d (.r v)) K) : callX P E N ws ds kp tail rest st K f xs d :=
  ⟨[], (fun _ h => by cases h), callG_r hc hb hk⟩
theorem callX_ro {f : Nat} {xs ys : List AV} {kk : Nat} {els : List (List AV)} (hc : Con P E.G f ys [] 0 (Is (.ro true kk els) [] 0) No) (hb : borL st xs = some ys) (hp : ∀ e ∈ els, ∀ x ∈ e, PT x) (hk : exX P E N ws ds kp tail rest (st.put d (.ro true kk els)) K) : callX P E N ws ds kp tail rest st K f xs d :=
  ⟨[], (fun _ h => by cases h), callG_ro hc hb hp hk⟩
theorem callX_i {f : Nat} {xs ys : List AV} {res : AV} {os : List (Nat × Nd)} {m : Nat} (hc : Con P E.G f ys [] 0 (Is res os m) No) (hb : borL st xs = some ys) (hp : PT res) (hq : ∀ p ∈ os, PTNd p.2)
    (hk : exX P E N ws ds kp tail rest ({ st with o := shO st.n os ++ st.o, n := st.n + m }.put d (ren (· + st.n) res)) K) : callX P E N ws ds kp tail rest st K f xs d :=
  ⟨[], (fun _ h => by cases h), callG_is hc hb hp hq hk⟩
theorem callX_own (σ : List Nat) {f : Nat} {xs ys : List AV} {oc os : List (Nat × Nd)} {res res' : AV} {m : Nat} {st' : AS} (hc : Con P E.G f ys oc σ.length (Is res os m) No) (hb : pasL σ st xs = some ys) (ho : okO σ st.o oc) (hall : ∀ i, i < σ.length → ∃ nd, lk oc i = some nd)
    (hlt : ∀ i ∈ σ, i < st.n) (hnd : σ.Nodup) (hbig : st.n ≤ 1000000000) (hw : ∀ t ∈ σ, t ∈ ws) (hp : PT res) (hp' : ∀ p ∈ os, PTNd p.2) (hr : ren (fw σ st.n) res = res') (hs : { st with o := mapO (fw σ st.n) os ++ rmL σ st.o, n := st.n + (m - σ.length) } = st') (hk : exX P E N ws ds kp tail rest (st'.put d res') K) : callX P E N ws ds kp tail rest st K f xs d :=
  ⟨σ, hw, callT_of_con hc hb ho hall hlt hnd hbig (fun y o n ⟨h1, h2, h3⟩ => by subst h1 h2 h3 hr hs; exact ⟨hp, hp', hk⟩) (fun _ _ _ h => h.elim)⟩
end
end Go.AM
