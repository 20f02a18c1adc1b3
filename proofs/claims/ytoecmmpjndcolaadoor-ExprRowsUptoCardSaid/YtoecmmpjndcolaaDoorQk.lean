/- The abstract machine, 11: operations in a row; calls; code. -/
import Derived.Test.YtoecmmpjndcolaaDoorQj
set_option linter.unusedSimpArgs false
set_option linter.unusedVariables false
namespace Go.AM
open Go
/-- May a function be called so: it has a body of its own. -/
def okFn (P : Program) (f : Nat) : Bool := match P.funcs[f]? with
  | some fn => fn.name != "runtime.NumGoroutine" && fn.body.isSome
  | none => false
theorem run_callFunc {P : Program} {f : Nat} (h : okFn P f = true) (args : Array Value) (w : World) : (callFunc f args).run P w = .ok (.enter f args) w := by
  unfold okFn at h
  split at h
  · rename_i fn hf
    simp only [Bool.and_eq_true, bne_iff_ne, ne_eq] at h
    obtain ⟨h1, h2⟩ := h
    have h3 : fn.body.isNone = false := by cases hb : fn.body <;> simp_all
    have h4 : (fn.name == "runtime.NumGoroutine") = false := by simpa using h1
    simp only [callFunc, Sem.run_bind, run_program, Result.andThen_ok, hf, h4, h3]
    rfl
  · cases h
/-- What a call comes to, in a state. -/
def CallT (P : Program) (E : Env) (N : Nat) (f : Nat) (xs : List AV) (st : AS) (ts : List Nat) (k kp : AV → AS → Prop) : Prop :=
  okFn P f = true ∧ ∀ th z a w vs, Sim E N st th z a w → Reps w z th xs vs → Calls P f vs.toArray w (fun e w' => ∃ v x st' th' z', ((e = .returned v ∧ k x st') ∨ (e = .panicked [{ v := v, recovered := false }] ∧ kp x st')) ∧ st'.m = st.m ∧ Sim E N st' th' z' a w' ∧ Rep w' z' th' x v ∧ Later th th' ∧ ExtT th ts w w')
def CallV (P : Program) (E : Env) (N : Nat) (f : Nat) (xs : List AV) (st : AS) (k kp : AV → AS → Prop) : Prop := ∃ ts, CallT P E N f xs st ts k kp
/-- The same of a call that leaves all that was there as it was. -/
def CallG (P : Program) (E : Env) (N : Nat) (f : Nat) (xs : List AV) (st : AS) (k kp : AV → AS → Prop) : Prop := CallT P E N f xs st [] k kp
theorem CallG.v {P : Program} {E : Env} {N : Nat} {f : Nat} {xs : List AV} {st : AS} {k kp : AV → AS → Prop} (h : CallG P E N f xs st k kp) : CallV P E N f xs st k kp := ⟨[], h⟩
theorem CallT.mono {P : Program} {E : Env} {N : Nat} {f : Nat} {xs : List AV} {st : AS} {ts : List Nat} {k kp k' kp' : AV → AS → Prop} (h : CallT P E N f xs st ts k kp) (hk : ∀ v s, k v s → k' v s) (hp : ∀ v s, kp v s → kp' v s) : CallT P E N f xs st ts k' kp' :=
  ⟨h.1, fun th z a w vs h1 h2 => (h.2 th z a w vs h1 h2).mono fun e w' ⟨v, x, st', th', z', h3, h4⟩ => ⟨v, x, st', th', z', h3.imp (fun h => ⟨h.1, hk _ _ h.2⟩) (fun h => ⟨h.1, hp _ _ h.2⟩), h4⟩⟩
/-- An effect, as data: its conditions, its value, the state behind it. -/
def effR (P : Program) (G : List (Nat × List Value)) (st : AS) (op : Op) : Option (Prop × AV × AS) :=
  match op with
  | .box T x => match tyOf P T, ev st G x with
    | some _, some x => some (x.okPart = true, .p st.n 0 0, putNd st (.box T x.cells))
    | _, _ => none
  | .alloc T => match tyOf P T with
    | some ⟨_, _, _, some zs⟩ => some (True, .p st.n 0 0, putNd st (.box T (zs.map .r)))
    | _ => none
  | .buildSlice T len parts => match tyOf P T, evs st G (parts.toList.map (·.2)) with
    | some ⟨.slice e, _, _, _⟩, some c => match tyOf P e, frzL st c with
      | some ⟨_, sz, _, some _⟩, some (c', st') => match elsL sz 0 (parts.toList.map (·.1)) c' with
        | some els => some ((len = els.length ∧ len * sz ≤ 16777216), .s st'.n 0 len, putNd st' (.lst e sz els))
        | none => none
      | _, _ => none
    | _, _ => none
  | .store T x v => match tyOf P T, ev st G x, ev st G v with
    | some y, some (.p n i off), some v => match lk st.o n with
      | some (.box T' c) => if i = 0 ∧ v.cells.length = y.size ∧ off + y.size ≤ c.length ∧ v.okPart = true ∧ v.cells.all AV.cell1 = true then some (True, .r (.tuple #[]), setNd st n (.box T' (splice c off v.cells))) else none
      | some (.lst T' k' els) => match frz st v with
        | some (v', st') => match lk st'.o n, els[i]? with
          | some (.lst _ _ _), some e => some ((v'.cells.length = y.size ∧ off + y.size ≤ e.length ∧ v'.okPart = true ∧ v'.cells.all AV.cell1 = true), .r (.tuple #[]), setNd st' n (.lst T' k' (els.set i (splice e off v'.cells))))
          | _, _ => none
        | none => none
      | none => none
    | _, _, _ => none
  | .call { callee := .builtin .append, args, argTypes } => match evs st G args.toList, argTypes.toList with
    | some [b, x], [T, T'] => match tyOf P T, tyOf P T' with
      | some ⟨.slice e, _, _, _⟩, some y' => match tyOf P e with
        | some ⟨_, sz, bytes, some zs⟩ => match srcA st sz y'.k x with
          | some new => match b with
            | .r (.slice none 0 0) => some ((zs.length = sz ∧ 0 < sz ∧ new.length * bytes ≤ 140737488355328 ∧ new.length ≤ 9223372036854775807), .s st.n 0 new.length, putNd st (.lst e sz new))
            | .s n lo len => match lk st.o n with
              | some (.lst T2 k' els) => some ((T2 = e ∧ zs.length = sz ∧ k' = sz ∧ 0 < sz ∧ lo + len ≤ els.length ∧ (len + new.length) * bytes ≤ 140737488355328 ∧ len + new.length ≤ 9223372036854775807),
                  .s st.n 0 (len + new.length), putNd { st with o := rm st.o n } (.lst e sz ((els.drop lo).take len ++ new)))
              | _ => none
            | _ => none
          | none => none
        | _ => none
      | _, _ => none
    | _, _ => none
  | .makeSlice T l c => match tyOf P T, ev st G l, ev st G c with
    | some ⟨.slice e, _, _, _⟩, some (.r (.int _ n)), some (.r (.int _ n')) => match tyOf P e with
      | some ⟨_, sz, bytes, some zs⟩ => some ((n = n' ∧ 0 ≤ n ∧ n ≤ 9223372036854775807 ∧ n * bytes ≤ 281474976710656 ∧ 0 < sz ∧ zs.length = sz ∧ zs.all Value.oneCell' = true), .s st.n 0 n.toNat, putNd st (.lst e sz (List.replicate n.toNat (zs.map .r))))
      | _ => none
    | _, _, _ => none
  | _ => none
def bindE (x : Option (Prop × AV × AS)) (k : AV → AS → Prop) : Prop := match x with
  | some (c, v, s) => c ∧ k v s
  | none => False
def bindO (x : Option AV) (k : AV → Prop) : Prop := match x with
  | some v => k v
  | none => False
def bindF (f : Option AV) (x : Option (List AV)) (k : Nat → List AV → Prop) : Prop := match f, x with
  | some (.fn g caps), some xs => k g (xs ++ caps)
  | _, _ => False
theorem bindE_some (c : Prop) (v : AV) (s : AS) (k : AV → AS → Prop) : bindE (some (c, v, s)) k = (c ∧ k v s) := rfl
theorem bindO_some (v : AV) (k : AV → Prop) : bindO (some v) k = k v := rfl
theorem bindF_some (g : Nat) (caps xs : List AV) (k : Nat → List AV → Prop) : bindF (some (.fn g caps)) (some xs) k = k g (xs ++ caps) := rfl
@[congr] theorem bindE_congr {x y : Option (Prop × AV × AS)} {k : AV → AS → Prop} (h : x = y) : bindE x k = bindE y k := by rw [h]
@[congr] theorem bindO_congr {x y : Option AV} {k : AV → Prop} (h : x = y) : bindO x k = bindO y k := by rw [h]
@[congr] theorem bindF_congr {f g : Option AV} {x y : Option (List AV)} {k : Nat → List AV → Prop} (h : f = g) (h' : x = y) : bindF f x k = bindF g y k := by rw [h, h']
theorem eff_eq (P : Program) (G : List (Nat × List Value)) (st : AS) (op : Op) (k : AV → AS → Prop) (h : bindE (effR P G st op) k) : eff P G st op k := by
  unfold effR at h
  unfold eff
  split at h
  · split at h <;> (first | exact h.elim | (simp_all [bindE]; done) | (simp only [*]; exact h))
  · split at h <;> (first | exact h.elim | (simp_all [bindE]; done) | (simp only [*]; exact h))
  · split at h
    · split at h
      · split at h <;> (first | exact h.elim | (simp_all [bindE]; done) | (simp only [*]; exact h))
      · (first | exact h.elim | (simp_all [bindE]; done) | (simp only [*]; exact h))
    · (first | exact h.elim | (simp_all [bindE]; done) | (simp only [*]; exact h))
  · split at h
    · split at h
      · split at h <;> (first | exact h.elim | (simp_all [bindE]; done) | (simp only [*]; exact h))
      · split at h
        · split at h <;> (first | exact h.elim | (simp_all [bindE]; done) | (simp only [*]; exact h))
        · (first | exact h.elim | (simp_all [bindE]; done) | (simp only [*]; exact h))
      · (first | exact h.elim | (simp_all [bindE]; done) | (simp only [*]; exact h))
    · (first | exact h.elim | (simp_all [bindE]; done) | (simp only [*]; exact h))
  · split at h
    · split at h
      · split at h
        · split at h
          · split at h
            · (first | exact h.elim | (simp_all [bindE]; done) | (simp only [*]; exact h))
            · split at h <;> (first | exact h.elim | (simp_all [bindE]; done) | (simp only [*]; exact h))
            · (first | exact h.elim | (simp_all [bindE]; done) | (simp only [*]; exact h))
          · (first | exact h.elim | (simp_all [bindE]; done) | (simp only [*]; exact h))
        · (first | exact h.elim | (simp_all [bindE]; done) | (simp only [*]; exact h))
      · (first | exact h.elim | (simp_all [bindE]; done) | (simp only [*]; exact h))
    · (first | exact h.elim | (simp_all [bindE]; done) | (simp only [*]; exact h))
  · split at h
    · split at h <;> (first | exact h.elim | (simp_all [bindE]; done) | (simp only [*]; exact h))
    · (first | exact h.elim | (simp_all [bindE]; done) | (simp only [*]; exact h))
  · (first | exact h.elim | (simp_all [bindE]; done) | (simp only [*]; exact h))
/-- Is an operation wanted? -/
inductive GV where
  | yes | no | bad
  | ask (b w : Bool)
def gvOf (ds : List (Option Nat)) (st : AS) : Option (Nat × Bool) → GV
  | none => .yes
  | some (j, want) => match ds[j]? with
    | some (some d) => match lk st.m d with
      | some (.r (.bool b)) => .ask b want
      | some (.r (.tuple _)) => .no
      | _ => .bad
    | _ => .bad
def branch (g : GV) (y n : Prop) : Prop := match g with
  | .yes => y
  | .no => n
  | .bad => False
  | .ask b w => (b = w → y) ∧ (b = !w → n)
@[congr] theorem branch_congr {g g' : GV} {y n : Prop} (h : g = g') : branch g y n = branch g' y n := by rw [h]
theorem branch_yes (y n : Prop) : branch .yes y n = y := rfl
theorem branch_no (y n : Prop) : branch .no y n = n := rfl
theorem branch_tt (y n : Prop) : branch (.ask true true) y n = y := by simp [branch]
theorem branch_ff (y n : Prop) : branch (.ask false false) y n = y := by simp [branch]
theorem branch_tf (y n : Prop) : branch (.ask true false) y n = n := by simp [branch]
theorem branch_ft (y n : Prop) : branch (.ask false true) y n = n := by simp [branch]
def stepA (P : Program) (E : Env) (N : Nat) (st : AS) (op : Op) (k kp : AV → AS → Prop) : Prop :=
  match op with
  | .call { callee := .value f, args, .. } => bindF (ev st E.G f) (evs st E.G args.toList) (fun g xs => CallV P E N g xs st k kp)
  | .call { callee := .builtin .append, args, argTypes } => bindE (effR P E.G st (.call { callee := .builtin .append, args := args, argTypes := argTypes })) k
  | .box T x => bindE (effR P E.G st (.box T x)) k
  | .alloc T => bindE (effR P E.G st (.alloc T)) k
  | .buildSlice T n ps => bindE (effR P E.G st (.buildSlice T n ps)) k
  | .store T x v => bindE (effR P E.G st (.store T x v)) k
  | .makeSlice T l c => bindE (effR P E.G st (.makeSlice T l c)) k
  | .panic x => bindO (ev st E.G x) (fun v => match v with
    | .ifc t v => kp (.ifc t v) st
    | _ => False)
  | op => bindO (qv P E.G st op) (fun v => k v st)
@[congr] theorem CallV_congr {P : Program} {E : Env} {N f : Nat} {xs xs' : List AV} {st st' : AS} {k kp : AV → AS → Prop} (h : xs = xs') (h' : st = st') : CallV P E N f xs st k kp = CallV P E N f xs' st' k kp := by rw [h, h']
@[congr] theorem CallG_congr {P : Program} {E : Env} {N f : Nat} {xs xs' : List AV} {st st' : AS} {k kp : AV → AS → Prop} (h : xs = xs') (h' : st = st') : CallG P E N f xs st k kp = CallG P E N f xs' st' k kp := by rw [h, h']
/-- Operations, one behind the other. -/
def exec (P : Program) (E : Env) (N : Nat) (ds : List (Option Nat)) (kp : AV → AS → Prop) : List Oper → AS → (AS → Prop) → Prop
  | [], st, K => K st
  | o :: rest, st, K => branch (gvOf ds st o.guard) (stepA P E N st o.op (fun v st' => exec P E N ds kp rest (st'.put o.dst v) K) kp) (exec P E N ds kp rest (st.put o.dst (.r (.tuple #[]))) K)
/-- The slots that the operations write. -/
def dsOf (ops : Array Oper) : List (Option Nat) := ops.toList.map (·.dst)
section
variable {P : Program} {E : Env} {N : Nat} {st : AS} {th : List NLoc} {z : Zone} {a : Act} {w : World}
theorem upon_of_eff {o : Oper} {k : AV → AS → Prop} {b : Bool} {ts : List Nat} {next : Act → World → Prop} {Q : Exit → Act → World → Prop} (he : Eff P E N o a w th ts st.m k b) (hd : ∀ i, o.dst = some i → i < N)
    (hn : ∀ x st' th' z' a' w', k x st' → st'.m = st.m → Sim E N (st'.put o.dst x) th' z' a' w' → (b = true → Ext w w') → next a' w') : o.wp P a w next Q := by
  obtain ⟨v, x, st', th', z', w', hrun, hk, hs, hr, hm, hx, _, _⟩ := he
  unfold Oper.wp
  rcases hrun with hrun | ⟨hrun, rfl⟩
  · rw [hrun, Oper.upon_value]; exact hn x st' th' z' _ w' hk hm (hs.put hr o.dst hd) hx
  · rw [hrun, Oper.upon_skip]; exact hn x st' th' z' _ w' hk hm (hs.put hr o.dst hd) hx
theorem Sim.eval_r (h : Sim E N st th z a w) {x : Operand} {v : Value} (he : ev st E.G x = some (.r v)) : a.eval x = v := (ev_sound h he).r_inv
theorem stepA_sound (h : Sim E N st th z a w) (o : Oper) {k kp : AV → AS → Prop} (hk : stepA P E N st o.op k kp) (hd : ∀ i, o.dst = some i → i < N) {next : Act → World → Prop} {Q : Exit → Act → World → Prop}
    (hn : ∀ x st' th' z' a' w', k x st' → Sim E N (st'.put o.dst x) th' z' a' w' → next a' w') (hp : ∀ x v st' th' z' w', kp x st' → Sim E N st' th' z' a w' → Rep w' z' th' x v → Q (.panic [{ v := v, recovered := false }]) a w') : o.wp P a w next Q := by
  obtain ⟨dst, op, ty, pos, aft, gd⟩ := o
  simp only at hk
  unfold stepA at hk
  split at hk
  · rename_i f args ats
    unfold bindF at hk
    split at hk
    · rename_i g caps xs hf hx
      obtain ⟨ts, hok, hc⟩ := hk
      have hf' := ev_sound h hf
      generalize hv : a.eval f = fv at hf'
      cases hf' with
      | fn _ _ _ ys hl hxx =>
        have hr := (evs_sound h hx).append ⟨hl, hxx⟩
        have hcall := hc th z a w _ h hr
        unfold Oper.wp
        have hrun : (execOp a.eval ⟨dst, .call { callee := .value f, args := args, argTypes := ats }, ty, pos, aft, gd⟩).run P w = .ok (.enter g (List.map a.eval args.toList ++ ys).toArray) w := by
          simp only [execOp, resolve, hv, Deferred.ofValue, Sem.run_bind, Sem.run_pure, Result.andThen_ok, invoke]
          rw [run_callFunc hok]
          congr 2
          apply Array.ext'; simp
        rw [hrun, Oper.upon_enter]
        refine hcall.mono ?_
        rintro e w' ⟨v, x, st', th', z', hh, hm, hs, hrr, _, _⟩
        rcases hh with ⟨rfl, hk⟩ | ⟨rfl, hk⟩
        · exact hn x st' th' z' _ w' hk (hs.put hrr dst hd)
        · exact hp x v st' th' z' w' hk hs hrr
    · exact hk.elim
  · exact upon_of_eff (eff_append h (eff_eq _ _ _ _ _ hk)) hd (fun x st' th' z' a' w' h1 _ h2 _ => hn x st' th' z' a' w' h1 h2)
  · exact upon_of_eff (eff_box h (eff_eq _ _ _ _ _ hk)) hd (fun x st' th' z' a' w' h1 _ h2 _ => hn x st' th' z' a' w' h1 h2)
  · exact upon_of_eff (eff_alloc h (eff_eq _ _ _ _ _ hk)) hd (fun x st' th' z' a' w' h1 _ h2 _ => hn x st' th' z' a' w' h1 h2)
  · exact upon_of_eff (eff_buildSlice h (eff_eq _ _ _ _ _ hk)) hd (fun x st' th' z' a' w' h1 _ h2 _ => hn x st' th' z' a' w' h1 h2)
  · exact upon_of_eff (eff_store h (eff_eq _ _ _ _ _ hk)) hd (fun x st' th' z' a' w' h1 _ h2 _ => hn x st' th' z' a' w' h1 h2)
  · exact upon_of_eff (eff_makeSlice h (eff_eq _ _ _ _ _ hk)) hd (fun x st' th' z' a' w' h1 _ h2 _ => hn x st' th' z' a' w' h1 h2)
  · rename_i px
    unfold bindO at hk
    split at hk
    rotate_left
    · exact hk.elim
    rename_i vx he
    split at hk
    · rename_i t v
      have hr := ev_sound h he
      generalize hv : a.eval px = fv at hr
      cases hr with
      | ifc _ _ _ u hu =>
        unfold Oper.wp
        have hrun : (execOp a.eval ⟨dst, .panic px, ty, pos, aft, gd⟩).run P w = .halt (.panic (.iface t u)) w := by
          simp only [execOp, hv, Instr.panic]; rfl
        rw [hrun, Oper.upon_panic]
        exact hp _ _ st th z w hk h (.ifc th t v u hu)
    · exact hk.elim
  · unfold bindO at hk
    split at hk
    · rename_i v hq
      obtain ⟨u, hr, hrun⟩ := qv_sound h ⟨dst, op, ty, pos, aft, gd⟩ hq
      unfold Oper.wp
      rw [hrun w SameK.refl, Oper.upon_value]
      exact hn v st th z _ w hk (h.put hr dst hd)
    · exact hk.elim
theorem yielded_bool (h : Sim E N st th z a w) {ops : Array Oper} {j d : Nat} (hd : (ops[j]?).bind (·.dst) = some d) {b : Bool} (hl : lk st.m d = some (.r (.bool b))) : yielded ops a.tmps j = some b := by
  obtain ⟨y, hy, hr⟩ := h.slots d _ hl
  have := hr.r_inv; subst this
  simp [yielded, hd, hy]
theorem yielded_undef (h : Sim E N st th z a w) {ops : Array Oper} {j d : Nat} (hd : (ops[j]?).bind (·.dst) = some d) {vs : Array Value} (hl : lk st.m d = some (.r (.tuple vs))) : yielded ops a.tmps j = none := by
  obtain ⟨y, hy, hr⟩ := h.slots d _ hl
  have := hr.r_inv; subst this
  simp [yielded, hd, hy]
theorem bool_ne {b w : Bool} (h : ¬ b = w) : b = !w := by cases b <;> cases w <;> simp at h ⊢
theorem guard_sound (h : Sim E N st th z a w) {ops : Array Oper} {o : Oper} {y n : Prop} (hx : branch (gvOf (dsOf ops) st o.guard) y n) : (Region.wanted o (yielded ops a.tmps) = true ∧ y) ∨ (Region.wanted o (yielded ops a.tmps) = false ∧ n) := by
  generalize hg : o.guard = g at hx
  cases g with
  | none => exact .inl ⟨by simp [Region.wanted, hg], hx⟩
  | some p =>
    obtain ⟨j, want⟩ := p
    unfold gvOf at hx
    simp only at hx
    have hds : (dsOf ops)[j]? = (ops[j]?).map (·.dst) := by simp [dsOf]
    rw [hds] at hx
    cases ho : ops[j]? with
    | none => rw [ho] at hx; exact hx.elim
    | some oj =>
      rw [ho] at hx
      simp only [Option.map_some] at hx
      cases hd : oj.dst with
      | none => rw [hd] at hx; exact hx.elim
      | some d =>
      rw [hd] at hx
      have hdj : (ops[j]?).bind (·.dst) = some d := by rw [ho]; exact hd
      simp only at hx
      split at hx
      · rename_i b hl
        have hy := yielded_bool h hdj hl
        by_cases hb : b = want
        · exact .inl ⟨by simp [Region.wanted, hg, hy, hb], hx.1 hb⟩
        · exact .inr ⟨by simp [Region.wanted, hg, hy, hb], hx.2 (bool_ne hb)⟩
      · rename_i vs hl
        have hy := yielded_undef h hdj hl
        exact .inr ⟨by simp [Region.wanted, hg, hy], hx⟩
      · exact hx.elim
theorem exec_sound {ops : Array Oper} {kp : AV → AS → Prop} {Q : Exit → Act → World → Prop} {K : AS → Prop} (hp : ∀ x v st' th' z' a' w', kp x st' → Sim E N st' th' z' a' w' → Rep w' z' th' x v → Q (.panic [{ v := v, recovered := false }]) a' w')
    (hK : ∀ st' th' z' a' w', K st' → Sim E N st' th' z' a' w' → Q .normal a' w') : ∀ (l : List Oper), (∀ o ∈ l, ∀ i, o.dst = some i → i < N) → ∀ {st : AS} {th : List NLoc} {z : Zone} {a : Act} {w : World}, Sim E N st th z a w → exec P E N (dsOf ops) kp l st K → wpList P ops Q l a w
  | [], _, st, th, z, a, w, h, hx => hK st th z a w hx h
  | o :: rest, hd, st, th, z, a, w, h, hx => by
    have ih : ∀ {st : AS} {th : List NLoc} {z : Zone} {a : Act} {w : World}, Sim E N st th z a w → exec P E N (dsOf ops) kp rest st K → wpList P ops Q rest a w := exec_sound hp hK rest (fun o ho => hd o (by simp [ho]))
    have hdo := hd o (by simp)
    have go : stepA P E N st o.op (fun v st' => exec P E N (dsOf ops) kp rest (st'.put o.dst v) K) kp → o.wp P a w (wpList P ops Q rest) Q := fun hs =>
      stepA_sound h o hs hdo (fun x st' th' z' a' w' h1 h2 => ih h2 h1) (fun x v st' th' z' w' h1 h2 h3 => hp x v st' th' z' a w' h1 h2 h3)
    have skip : exec P E N (dsOf ops) kp rest (st.put o.dst (.r (.tuple #[]))) K → wpList P ops Q rest (a.put o.dst undef) w := fun hs => ih (h.put (.r th undef) o.dst hdo) hs
    unfold exec at hx
    unfold wpList
    rcases guard_sound h hx with ⟨hw, hs⟩ | ⟨hw, hs⟩
    · rw [if_pos hw]; exact .inl (go hs)
    · rw [if_neg (by rw [hw]; exact Bool.false_ne_true)]; exact skip hs
/-- Where a piece of code may end. -/
inductive AExit where
  | normal
  | exit (id : Nat)
  | ret
  | pan (v : AV)
/-- A condition on worlds bears one on states. -/
def QOK (E : Env) (N : Nat) (Q : Exit → Act → World → Prop) (AQ : AExit → AS → Prop) : Prop :=
  (∀ st th z a w, AQ .normal st → Sim E N st th z a w → Q .normal a w) ∧ (∀ id st th z a w, AQ (.exit id) st → Sim E N st th z a w → Q (.exit id) a w) ∧ (∀ st th z a w, AQ .ret st → Sim E N st th z a w → Q .ret a w) ∧
    ∀ x v st th z w, AQ (.pan x) st → Mem E st.o st.n th z w → Rep w z th x v → ∀ a : Act, a.defers = [] → Q (.panic [{ v := v, recovered := false }]) a w
/-- A piece of code, from a state on. -/
def AWP (P : Program) (E : Env) (N : Nat) (c : Code) (st : AS) (AQ : AExit → AS → Prop) : Prop :=
  ∀ Q, QOK E N Q AQ → ∀ th z a w, Sim E N st th z a w → c.wp P Q a w
def dstOK (N : Nat) (ops : Array Oper) : Bool := ops.all fun o => match o.dst with | some d => decide (d < N) | none => true
theorem dstOK_spec {ops : Array Oper} (h : dstOK N ops = true) : ∀ o ∈ ops.toList, ∀ i, o.dst = some i → i < N := by
  intro o ho i hi
  simp only [dstOK, Array.all_eq_true', Array.mem_def] at h
  have := h o ho
  rw [hi] at this
  simpa using this
variable {AQ : AExit → AS → Prop}
theorem awp_region {id : Nat} {ops : Array Oper} {ds : List (Option Nat)} {l : List Oper} (hd : dstOK N ops = true) (hds : dsOf ops = ds) (hl : ops.toList = l) (h : exec P E N ds (fun x st => AQ (.pan x) st) l st (AQ .normal)) : AWP P E N (.region id ops false) st AQ := by
  subst hds hl
  exact fun _ hQ _ _ _ _ hs => wp_region_list (exec_sound (fun x v st' th' z' a' w' h1 h2 h3 => hQ.2.2.2 x v st' th' z' w' h1 h2.mem h3 a' h2.dfs) (fun st' th' z' a' w' h1 h2 => hQ.1 st' th' z' a' w' h1 h2) ops.toList (dstOK_spec hd) hs h)
@[congr] theorem AWP_congr {c : Code} {st st' : AS} (h : st = st') : AWP P E N c st AQ = AWP P E N c st' AQ := by rw [h]
theorem awp_skip (h : AQ .normal st) : AWP P E N .skip st AQ := fun _ hQ th z a w hs => wp_skip (hQ.1 st th z a w h hs)
theorem awp_exit {id : Nat} (h : AQ (.exit id) st) : AWP P E N (.exit id) st AQ := fun _ hQ th z a w hs => wp_exit (hQ.2.1 id st th z a w h hs)
theorem awp_ret (h : AQ .ret st) : AWP P E N .ret st AQ := fun _ hQ th z a w hs => wp_ret (hQ.2.2.1 st th z a w h hs)
/-- What is to be shown behind a first piece. -/
def thenA (K : AS → Prop) (AQ : AExit → AS → Prop) : AExit → AS → Prop
  | .normal, st => K st
  | e, st => AQ e st
def blockA (id : Nat) (AQ : AExit → AS → Prop) : AExit → AS → Prop
  | .exit id', st => match Nat.beq id' id with
    | true => AQ .normal st
    | false => AQ (.exit id') st
  | e, st => AQ e st
theorem awp_seq {x y : Code} (h : AWP P E N x st (thenA (fun st' => AWP P E N y st' AQ) AQ)) : AWP P E N (.seq x y) st AQ := by
  intro Q hQ th z a w hs
  refine wp_seq (h _ ⟨?_, ?_, ?_, ?_⟩ th z a w hs)
  · intro st' th' z' a' w' h1 h2; exact h1 Q hQ th' z' a' w' h2
  · intro id st' th' z' a' w' h1 h2; exact hQ.2.1 id st' th' z' a' w' h1 h2
  · intro st' th' z' a' w' h1 h2; exact hQ.2.2.1 st' th' z' a' w' h1 h2
  · intro x v st' th' z' w' h1 h2 h3 a' h4; exact hQ.2.2.2 x v st' th' z' w' h1 h2 h3 a' h4
theorem AWP.mono {c : Code} {AQ' : AExit → AS → Prop} (h : AWP P E N c st AQ) (hq : ∀ e st, AQ e st → AQ' e st) : AWP P E N c st AQ' := fun Q hQ =>
  h Q ⟨fun st th z a w h1 h2 => hQ.1 st th z a w (hq _ _ h1) h2, fun id st th z a w h1 h2 => hQ.2.1 id st th z a w (hq _ _ h1) h2, fun st th z a w h1 h2 => hQ.2.2.1 st th z a w (hq _ _ h1) h2, fun x v st th z w h1 h2 h3 a h4 => hQ.2.2.2 x v st th z w (hq _ _ h1) h2 h3 a h4⟩
theorem awp_seq_k {x y : Code} (h : ∀ K : AS → Prop, (∀ st', AWP P E N y st' AQ → K st') → AWP P E N x st (thenA K AQ)) : AWP P E N (.seq x y) st AQ := awp_seq (h _ fun _ h => h)
theorem awp_block {id : Nat} {c : Code} (h : AWP P E N c st (blockA id AQ)) : AWP P E N (.block id c) st AQ := by
  intro Q hQ th z a w hs
  refine wp_block (h _ ⟨?_, ?_, ?_, ?_⟩ th z a w hs)
  · intro st' th' z' a' w' h1 h2; exact hQ.1 st' th' z' a' w' h1 h2
  · intro id' st' th' z' a' w' h1 h2
    simp only [blockA] at h1
    simp only [Exit.inBlock]
    split at h1
    · rename_i e; rw [if_pos (Nat.eq_of_beq_eq_true e)]; exact hQ.1 st' th' z' a' w' h1 h2
    · rename_i e; rw [if_neg (Nat.ne_of_beq_eq_false e)]; exact hQ.2.1 id' st' th' z' a' w' h1 h2
  · intro st' th' z' a' w' h1 h2; exact hQ.2.2.1 st' th' z' a' w' h1 h2
  · intro x v st' th' z' w' h1 h2 h3 a' h4; exact hQ.2.2.2 x v st' th' z' w' h1 h2 h3 a' h4
theorem awp_cond {c : Operand} {x y : Code} {b : Bool} (hc : ev st E.G c = some (.r (.bool b))) (ht : b = true → AWP P E N x st AQ) (hf : b = false → AWP P E N y st AQ) : AWP P E N (.cond c x y) st AQ := by
  intro Q hQ th z a w hs
  exact wp_cond_split (hs.eval_r hc) (fun h => ht h Q hQ th z a w hs) (fun h => hf h Q hQ th z a w hs)
theorem awp_cond_t {c : Operand} {x y : Code} (hc : ev st E.G c = some (.r (.bool true))) (ht : AWP P E N x st AQ) : AWP P E N (.cond c x y) st AQ := awp_cond hc (fun _ => ht) (fun h => by cases h)
theorem awp_cond_f {c : Operand} {x y : Code} (hc : ev st E.G c = some (.r (.bool false))) (hf : AWP P E N y st AQ) : AWP P E N (.cond c x y) st AQ := awp_cond hc (fun h => by cases h) (fun _ => hf)
end
end Go.AM
