/- Texts of the law LexCuts, part 2: lemmas; what is proved stands in the last text. -/
import Derived.Test.YteebiklebedneaaDoorZz1
import Derived.Below
set_option linter.unusedSimpArgs false
set_option linter.unusedVariables false
/- The abstract machine, 11: operations in a row; calls; code. -/
namespace Go.AM
open Go
/-- May a function be called so: it has a body of its own. -/
def okFn (P : Program) (f : Nat) : Bool := match P.funcs[f]? with
  | some fn => fn.name != "runtime.NumGoroutine" && fn.body.isSome
  | none => false
theorem run_callFunc {P : Program} {f : Nat} (h : okFn P f = true) (args : Array Value) (w : World) : (callFunc f args).run P w = .ok (.enter f args) w := by
  unfold okFn at h
  split at h
  · rename_i fn hf
    simp only [Bool.and_eq_true, bne_iff_ne, ne_eq] at h
    obtain ⟨h1, h2⟩ := h
    have h3 : fn.body.isNone = false := by cases hb : fn.body <;> simp_all
    have h4 : (fn.name == "runtime.NumGoroutine") = false := by simpa using h1
    simp only [callFunc, Sem.run_bind, run_program, Result.andThen_ok, hf, h4, h3]
    rfl
  · cases h
/-- What a call comes to, in a state. -/
def CallT (P : Program) (E : Env) (N : Nat) (f : Nat) (xs : List AV) (st : AS) (ts : List Nat) (k kp : AV → AS → Prop) : Prop :=
  okFn P f = true ∧ ∀ th z a w vs, Sim E N st th z a w → Reps w z th xs vs → Calls P f vs.toArray w (fun e w' => ∃ v x st' th' z', ((e = .returned v ∧ k x st') ∨ (e = .panicked [{ v := v, recovered := false }] ∧ kp x st')) ∧ st'.m = st.m ∧ Sim E N st' th' z' a w' ∧ Rep w' z' th' x v ∧ Later th th' ∧ ExtT th ts w w')
def CallV (P : Program) (E : Env) (N : Nat) (f : Nat) (xs : List AV) (st : AS) (k kp : AV → AS → Prop) : Prop := ∃ ts, CallT P E N f xs st ts k kp
/-- The same of a call that leaves all that was there as it was. -/
def CallG (P : Program) (E : Env) (N : Nat) (f : Nat) (xs : List AV) (st : AS) (k kp : AV → AS → Prop) : Prop := CallT P E N f xs st [] k kp
theorem CallG.v {P : Program} {E : Env} {N : Nat} {f : Nat} {xs : List AV} {st : AS} {k kp : AV → AS → Prop} (h : CallG P E N f xs st k kp) : CallV P E N f xs st k kp := ⟨[], h⟩
theorem CallT.mono {P : Program} {E : Env} {N : Nat} {f : Nat} {xs : List AV} {st : AS} {ts : List Nat} {k kp k' kp' : AV → AS → Prop} (h : CallT P E N f xs st ts k kp) (hk : ∀ v s, k v s → k' v s) (hp : ∀ v s, kp v s → kp' v s) : CallT P E N f xs st ts k' kp' :=
  ⟨h.1, fun th z a w vs h1 h2 => (h.2 th z a w vs h1 h2).mono fun e w' ⟨v, x, st', th', z', h3, h4⟩ => ⟨v, x, st', th', z', h3.imp (fun h => ⟨h.1, hk _ _ h.2⟩) (fun h => ⟨h.1, hp _ _ h.2⟩), h4⟩⟩
/-- An effect, as data: its conditions, its value, the state behind it. -/
def effR (P : Program) (G : List (Nat × List Value)) (st : AS) (op : Op) : Option (Prop × AV × AS) :=
  match op with
  | .box T x => match tyOf P T, ev st G x with
    | some _, some x => some (x.okPart = true, .p st.n 0 0, putNd st (.box T x.cells))
    | _, _ => none
  | .alloc T => match tyOf P T with
    | some ⟨_, _, _, some zs⟩ => some (True, .p st.n 0 0, putNd st (.box T (zs.map .r)))
    | _ => none
  | .buildSlice T len parts => match tyOf P T, evs st G (parts.toList.map (·.2)) with
    | some ⟨.slice e, _, _, _⟩, some c => match tyOf P e, frzL st c with
      | some ⟨_, sz, _, some _⟩, some (c', st') => match elsL sz 0 (parts.toList.map (·.1)) c' with
        | some els => some ((len = els.length ∧ len * sz ≤ 16777216), .s st'.n 0 len, putNd st' (.lst e sz els))
        | none => none
      | _, _ => none
    | _, _ => none
  | .store T x v => match tyOf P T, ev st G x, ev st G v with
    | some y, some (.p n i off), some v => match lk st.o n with
      | some (.box T' c) => if i = 0 ∧ v.cells.length = y.size ∧ off + y.size ≤ c.length ∧ v.okPart = true ∧ v.cells.all AV.cell1 = true then some (True, .r (.tuple #[]), setNd st n (.box T' (splice c off v.cells))) else none
      | some (.lst T' k' els) => match frz st v with
        | some (v', st') => match lk st'.o n, els[i]? with
          | some (.lst _ _ _), some e => some ((v'.cells.length = y.size ∧ off + y.size ≤ e.length ∧ v'.okPart = true ∧ v'.cells.all AV.cell1 = true), .r (.tuple #[]), setNd st' n (.lst T' k' (els.set i (splice e off v'.cells))))
          | _, _ => none
        | none => none
      | none => none
    | _, _, _ => none
  | .call { callee := .builtin .append, args, argTypes } => match zerosA P G st args argTypes with
   | some r => some r
   | none => match evs st G args.toList, argTypes.toList with
    | some [b, x], [T, T'] => match tyOf P T, tyOf P T' with
      | some ⟨.slice e, _, _, _⟩, some y' => match tyOf P e with
        | some ⟨_, sz, bytes, some zs⟩ => match srcA st sz y'.k x with
          | some new => match b with
            | .r (.slice none 0 0) => some ((zs.length = sz ∧ 0 < sz ∧ new.length * bytes ≤ 140737488355328 ∧ new.length ≤ 9223372036854775807), .s st.n 0 new.length, putNd st (.lst e sz new))
            | .s n lo len => match lk st.o n with
              | some (.lst T2 k' els) => some ((T2 = e ∧ zs.length = sz ∧ k' = sz ∧ 0 < sz ∧ lo + len ≤ els.length ∧ (len + new.length) * bytes ≤ 140737488355328 ∧ len + new.length ≤ 9223372036854775807),
                  .s st.n 0 (len + new.length), putNd { st with o := rm st.o n } (.lst e sz ((els.drop lo).take len ++ new)))
              | _ => none
            | _ => none
          | none => none
        | _ => none
      | _, _ => none
    | _, _ => none
  | .call { callee := .builtin .clear, args, argTypes } => match evs st G args.toList, argTypes.toList with
    | some [x], [T] => match tyOf P T with
      | some ⟨.slice e, _, _, _⟩ => match tyOf P e, x with
        | some ⟨_, sz, _, some zs⟩, .s n lo len => match lk st.o n with
          | some (.lst T2 k' els) => some ((zs.length = sz ∧ k' = sz ∧ 0 < sz ∧ lo + len ≤ els.length ∧ zs.all Value.oneCell' = true), .r (.tuple #[]), setNd st n (.lst T2 k' (els.take lo ++ List.replicate len (zs.map .r) ++ els.drop (lo + len))))
          | _ => none
        | _, _ => none
      | _ => none
    | _, _ => none
  | .makeSlice T l c => match tyOf P T, ev st G l, ev st G c with
    | some ⟨.slice e, _, _, _⟩, some (.r (.int _ n)), some (.r (.int _ n')) => match tyOf P e with
      | some ⟨_, sz, bytes, some zs⟩ => some ((n = n' ∧ 0 ≤ n ∧ n ≤ 9223372036854775807 ∧ n * bytes ≤ 281474976710656 ∧ 0 < sz ∧ zs.length = sz ∧ zs.all Value.oneCell' = true), .s st.n 0 n.toNat, putNd st (.lst e sz (List.replicate n.toNat (zs.map .r))))
      | _ => none
    | _, _, _ => none
  | _ => none
def bindE (x : Option (Prop × AV × AS)) (k : AV → AS → Prop) : Prop := match x with
  | some (c, v, s) => c ∧ k v s
  | none => False
def bindO (x : Option AV) (k : AV → Prop) : Prop := match x with
  | some v => k v
  | none => False
def bindF (f : Option AV) (x : Option (List AV)) (k : Nat → List AV → Prop) : Prop := match f, x with
  | some (.fn g caps), some xs => k g (xs ++ caps)
  | _, _ => False
theorem bindE_some (c : Prop) (v : AV) (s : AS) (k : AV → AS → Prop) : bindE (some (c, v, s)) k = (c ∧ k v s) := rfl
theorem bindO_some (v : AV) (k : AV → Prop) : bindO (some v) k = k v := rfl
theorem bindF_some (g : Nat) (caps xs : List AV) (k : Nat → List AV → Prop) : bindF (some (.fn g caps)) (some xs) k = k g (xs ++ caps) := rfl
@[congr] theorem bindE_congr {x y : Option (Prop × AV × AS)} {k : AV → AS → Prop} (h : x = y) : bindE x k = bindE y k := by rw [h]
@[congr] theorem bindO_congr {x y : Option AV} {k : AV → Prop} (h : x = y) : bindO x k = bindO y k := by rw [h]
@[congr] theorem bindF_congr {f g : Option AV} {x y : Option (List AV)} {k : Nat → List AV → Prop} (h : f = g) (h' : x = y) : bindF f x k = bindF g y k := by rw [h, h']
theorem eff_eq (P : Program) (G : List (Nat × List Value)) (st : AS) (op : Op) (k : AV → AS → Prop) (h : bindE (effR P G st op) k) : eff P G st op k := by
  unfold effR at h
  unfold eff
  split at h
  · split at h <;> (first | exact h.elim | (simp_all [bindE]; done) | (simp only [*]; exact h))
  · split at h <;> (first | exact h.elim | (simp_all [bindE]; done) | (simp only [*]; exact h))
  · split at h
    · split at h
      · split at h <;> (first | exact h.elim | (simp_all [bindE]; done) | (simp only [*]; exact h))
      · (first | exact h.elim | (simp_all [bindE]; done) | (simp only [*]; exact h))
    · (first | exact h.elim | (simp_all [bindE]; done) | (simp only [*]; exact h))
  · split at h
    · split at h
      · split at h <;> (first | exact h.elim | (simp_all [bindE]; done) | (simp only [*]; exact h))
      · split at h
        · split at h <;> (first | exact h.elim | (simp_all [bindE]; done) | (simp only [*]; exact h))
        · (first | exact h.elim | (simp_all [bindE]; done) | (simp only [*]; exact h))
      · (first | exact h.elim | (simp_all [bindE]; done) | (simp only [*]; exact h))
    · (first | exact h.elim | (simp_all [bindE]; done) | (simp only [*]; exact h))
  · rename_i args ats
    cases hzz : zerosA P G st args ats with
    | some r => simp only [hzz] at h ⊢; exact h
    | none =>
    simp only [hzz] at h ⊢
    split at h
    · split at h
      · split at h
        · split at h
          · split at h
            · (first | exact h.elim | (simp_all [bindE]; done) | (simp only [*]; exact h))
            · split at h <;> (first | exact h.elim | (simp_all [bindE]; done) | (simp only [*]; exact h))
            · (first | exact h.elim | (simp_all [bindE]; done) | (simp only [*]; exact h))
          · (first | exact h.elim | (simp_all [bindE]; done) | (simp only [*]; exact h))
        · (first | exact h.elim | (simp_all [bindE]; done) | (simp only [*]; exact h))
      · (first | exact h.elim | (simp_all [bindE]; done) | (simp only [*]; exact h))
    · (first | exact h.elim | (simp_all [bindE]; done) | (simp only [*]; exact h))
  · split at h
    · split at h
      · split at h
        · split at h <;> (first | exact h.elim | (simp_all [bindE]; done) | (simp only [*]; exact h))
        · (first | exact h.elim | (simp_all [bindE]; done) | (simp only [*]; exact h))
      · (first | exact h.elim | (simp_all [bindE]; done) | (simp only [*]; exact h))
    · (first | exact h.elim | (simp_all [bindE]; done) | (simp only [*]; exact h))
  · split at h
    · split at h <;> (first | exact h.elim | (simp_all [bindE]; done) | (simp only [*]; exact h))
    · (first | exact h.elim | (simp_all [bindE]; done) | (simp only [*]; exact h))
  · (first | exact h.elim | (simp_all [bindE]; done) | (simp only [*]; exact h))
/-- Is an operation wanted? -/
inductive GV where
  | yes | no | bad
  | ask (b w : Bool)
def gvOf (ds : List (Option Nat)) (st : AS) : Option (Nat × Bool) → GV
  | none => .yes
  | some (j, want) => match ds[j]? with
    | some (some d) => match lk st.m d with
      | some (.r (.bool b)) => .ask b want
      | some (.r (.tuple _)) => .no
      | _ => .bad
    | _ => .bad
def branch (g : GV) (y n : Prop) : Prop := match g with
  | .yes => y
  | .no => n
  | .bad => False
  | .ask b w => (b = w → y) ∧ (b = !w → n)
@[congr] theorem branch_congr {g g' : GV} {y n : Prop} (h : g = g') : branch g y n = branch g' y n := by rw [h]
theorem branch_yes (y n : Prop) : branch .yes y n = y := rfl
theorem branch_no (y n : Prop) : branch .no y n = n := rfl
theorem branch_tt (y n : Prop) : branch (.ask true true) y n = y := by simp [branch]
theorem branch_ff (y n : Prop) : branch (.ask false false) y n = y := by simp [branch]
theorem branch_tf (y n : Prop) : branch (.ask true false) y n = n := by simp [branch]
theorem branch_ft (y n : Prop) : branch (.ask false true) y n = n := by simp [branch]
def stepA (P : Program) (E : Env) (N : Nat) (st : AS) (op : Op) (k kp : AV → AS → Prop) : Prop :=
  match op with
  | .call { callee := .value f, args, .. } => bindF (ev st E.G f) (evs st E.G args.toList) (fun g xs => CallV P E N g xs st k kp)
  | .call { callee := .builtin .append, args, argTypes } => bindE (effR P E.G st (.call { callee := .builtin .append, args := args, argTypes := argTypes })) k
  | .call { callee := .builtin .clear, args, argTypes } => bindE (effR P E.G st (.call { callee := .builtin .clear, args := args, argTypes := argTypes })) k
  | .box T x => bindE (effR P E.G st (.box T x)) k
  | .alloc T => bindE (effR P E.G st (.alloc T)) k
  | .buildSlice T n ps => bindE (effR P E.G st (.buildSlice T n ps)) k
  | .store T x v => bindE (effR P E.G st (.store T x v)) k
  | .makeSlice T l c => bindE (effR P E.G st (.makeSlice T l c)) k
  | .panic x => bindO (ev st E.G x) (fun v => match v with
    | .ifc t v => kp (.ifc t v) st
    | _ => False)
  | op => bindO (qv P E.G st op) (fun v => k v st)
@[congr] theorem CallV_congr {P : Program} {E : Env} {N f : Nat} {xs xs' : List AV} {st st' : AS} {k kp : AV → AS → Prop} (h : xs = xs') (h' : st = st') : CallV P E N f xs st k kp = CallV P E N f xs' st' k kp := by rw [h, h']
@[congr] theorem CallG_congr {P : Program} {E : Env} {N f : Nat} {xs xs' : List AV} {st st' : AS} {k kp : AV → AS → Prop} (h : xs = xs') (h' : st = st') : CallG P E N f xs st k kp = CallG P E N f xs' st' k kp := by rw [h, h']
/-- Operations, one behind the other. -/
def exec (P : Program) (E : Env) (N : Nat) (ds : List (Option Nat)) (kp : AV → AS → Prop) : List Oper → AS → (AS → Prop) → Prop
  | [], st, K => K st
  | o :: rest, st, K => branch (gvOf ds st o.guard) (stepA P E N st o.op (fun v st' => exec P E N ds kp rest (st'.put o.dst v) K) kp) (exec P E N ds kp rest (st.put o.dst (.r (.tuple #[]))) K)
/-- The slots that the operations write. -/
def dsOf (ops : Array Oper) : List (Option Nat) := ops.toList.map (·.dst)
section
variable {P : Program} {E : Env} {N : Nat} {st : AS} {th : List NLoc} {z : Zone} {a : Act} {w : World}
theorem upon_of_eff {o : Oper} {k : AV → AS → Prop} {b : Bool} {ts : List Nat} {next : Act → World → Prop} {Q : Exit → Act → World → Prop} (he : Eff P E N o a w th ts st.m k b) (hd : ∀ i, o.dst = some i → i < N)
    (hn : ∀ x st' th' z' a' w', k x st' → st'.m = st.m → Sim E N (st'.put o.dst x) th' z' a' w' → (b = true → Ext w w') → next a' w') : o.wp P a w next Q := by
  obtain ⟨v, x, st', th', z', w', hrun, hk, hs, hr, hm, hx, _, _⟩ := he
  unfold Oper.wp
  rcases hrun with hrun | ⟨hrun, rfl⟩
  · rw [hrun, Oper.upon_value]; exact hn x st' th' z' _ w' hk hm (hs.put hr o.dst hd) hx
  · rw [hrun, Oper.upon_skip]; exact hn x st' th' z' _ w' hk hm (hs.put hr o.dst hd) hx
theorem Sim.eval_r (h : Sim E N st th z a w) {x : Operand} {v : Value} (he : ev st E.G x = some (.r v)) : a.eval x = v := (ev_sound h he).r_inv
theorem stepA_sound (h : Sim E N st th z a w) (o : Oper) {k kp : AV → AS → Prop} (hk : stepA P E N st o.op k kp) (hd : ∀ i, o.dst = some i → i < N) {next : Act → World → Prop} {Q : Exit → Act → World → Prop}
    (hn : ∀ x st' th' z' a' w', k x st' → Sim E N (st'.put o.dst x) th' z' a' w' → next a' w') (hp : ∀ x v st' th' z' w', kp x st' → Sim E N st' th' z' a w' → Rep w' z' th' x v → Q (.panic [{ v := v, recovered := false }]) a w') : o.wp P a w next Q := by
  obtain ⟨dst, op, ty, pos, aft, gd⟩ := o
  simp only at hk
  unfold stepA at hk
  split at hk
  · rename_i f args ats
    unfold bindF at hk
    split at hk
    · rename_i g caps xs hf hx
      obtain ⟨ts, hok, hc⟩ := hk
      have hf' := ev_sound h hf
      generalize hv : a.eval f = fv at hf'
      cases hf' with
      | fn _ _ _ ys hl hxx =>
        have hr := (evs_sound h hx).append ⟨hl, hxx⟩
        have hcall := hc th z a w _ h hr
        unfold Oper.wp
        have hrun : (execOp a.eval ⟨dst, .call { callee := .value f, args := args, argTypes := ats }, ty, pos, aft, gd⟩).run P w = .ok (.enter g (List.map a.eval args.toList ++ ys).toArray) w := by
          simp only [execOp, resolve, hv, Deferred.ofValue, Sem.run_bind, Sem.run_pure, Result.andThen_ok, invoke]
          rw [run_callFunc hok]
          congr 2
          apply Array.ext'; simp
        rw [hrun, Oper.upon_enter]
        refine hcall.mono ?_
        rintro e w' ⟨v, x, st', th', z', hh, hm, hs, hrr, _, _⟩
        rcases hh with ⟨rfl, hk⟩ | ⟨rfl, hk⟩
        · exact hn x st' th' z' _ w' hk (hs.put hrr dst hd)
        · exact hp x v st' th' z' w' hk hs hrr
    · exact hk.elim
  · exact upon_of_eff (eff_append h (eff_eq _ _ _ _ _ hk)) hd (fun x st' th' z' a' w' h1 _ h2 _ => hn x st' th' z' a' w' h1 h2)
  · exact upon_of_eff (eff_clear h (eff_eq _ _ _ _ _ hk)) hd (fun x st' th' z' a' w' h1 _ h2 _ => hn x st' th' z' a' w' h1 h2)
  · exact upon_of_eff (eff_box h (eff_eq _ _ _ _ _ hk)) hd (fun x st' th' z' a' w' h1 _ h2 _ => hn x st' th' z' a' w' h1 h2)
  · exact upon_of_eff (eff_alloc h (eff_eq _ _ _ _ _ hk)) hd (fun x st' th' z' a' w' h1 _ h2 _ => hn x st' th' z' a' w' h1 h2)
  · exact upon_of_eff (eff_buildSlice h (eff_eq _ _ _ _ _ hk)) hd (fun x st' th' z' a' w' h1 _ h2 _ => hn x st' th' z' a' w' h1 h2)
  · exact upon_of_eff (eff_store h (eff_eq _ _ _ _ _ hk)) hd (fun x st' th' z' a' w' h1 _ h2 _ => hn x st' th' z' a' w' h1 h2)
  · exact upon_of_eff (eff_makeSlice h (eff_eq _ _ _ _ _ hk)) hd (fun x st' th' z' a' w' h1 _ h2 _ => hn x st' th' z' a' w' h1 h2)
  · rename_i px
    unfold bindO at hk
    split at hk
    rotate_left
    · exact hk.elim
    rename_i vx he
    split at hk
    · rename_i t v
      have hr := ev_sound h he
      generalize hv : a.eval px = fv at hr
      cases hr with
      | ifc _ _ _ u hu =>
        unfold Oper.wp
        have hrun : (execOp a.eval ⟨dst, .panic px, ty, pos, aft, gd⟩).run P w = .halt (.panic (.iface t u)) w := by
          simp only [execOp, hv, Instr.panic]; rfl
        rw [hrun, Oper.upon_panic]
        exact hp _ _ st th z w hk h (.ifc th t v u hu)
    · exact hk.elim
  · unfold bindO at hk
    split at hk
    · rename_i v hq
      obtain ⟨u, hr, hrun⟩ := qv_sound h ⟨dst, op, ty, pos, aft, gd⟩ hq
      unfold Oper.wp
      rw [hrun w SameK.refl, Oper.upon_value]
      exact hn v st th z _ w hk (h.put hr dst hd)
    · exact hk.elim
theorem yielded_bool (h : Sim E N st th z a w) {ops : Array Oper} {j d : Nat} (hd : (ops[j]?).bind (·.dst) = some d) {b : Bool} (hl : lk st.m d = some (.r (.bool b))) : yielded ops a.tmps j = some b := by
  obtain ⟨y, hy, hr⟩ := h.slots d _ hl
  have := hr.r_inv; subst this
  simp [yielded, hd, hy]
theorem yielded_undef (h : Sim E N st th z a w) {ops : Array Oper} {j d : Nat} (hd : (ops[j]?).bind (·.dst) = some d) {vs : Array Value} (hl : lk st.m d = some (.r (.tuple vs))) : yielded ops a.tmps j = none := by
  obtain ⟨y, hy, hr⟩ := h.slots d _ hl
  have := hr.r_inv; subst this
  simp [yielded, hd, hy]
theorem bool_ne {b w : Bool} (h : ¬ b = w) : b = !w := by cases b <;> cases w <;> simp at h ⊢
theorem guard_sound (h : Sim E N st th z a w) {ops : Array Oper} {o : Oper} {y n : Prop} (hx : branch (gvOf (dsOf ops) st o.guard) y n) : (Region.wanted o (yielded ops a.tmps) = true ∧ y) ∨ (Region.wanted o (yielded ops a.tmps) = false ∧ n) := by
  generalize hg : o.guard = g at hx
  cases g with
  | none => exact .inl ⟨by simp [Region.wanted, hg], hx⟩
  | some p =>
    obtain ⟨j, want⟩ := p
    unfold gvOf at hx
    simp only at hx
    have hds : (dsOf ops)[j]? = (ops[j]?).map (·.dst) := by simp [dsOf]
    rw [hds] at hx
    cases ho : ops[j]? with
    | none => rw [ho] at hx; exact hx.elim
    | some oj =>
      rw [ho] at hx
      simp only [Option.map_some] at hx
      cases hd : oj.dst with
      | none => rw [hd] at hx; exact hx.elim
      | some d =>
      rw [hd] at hx
      have hdj : (ops[j]?).bind (·.dst) = some d := by rw [ho]; exact hd
      simp only at hx
      split at hx
      · rename_i b hl
        have hy := yielded_bool h hdj hl
        by_cases hb : b = want
        · exact .inl ⟨by simp [Region.wanted, hg, hy, hb], hx.1 hb⟩
        · exact .inr ⟨by simp [Region.wanted, hg, hy, hb], hx.2 (bool_ne hb)⟩
      · rename_i vs hl
        have hy := yielded_undef h hdj hl
        exact .inr ⟨by simp [Region.wanted, hg, hy], hx⟩
      · exact hx.elim
theorem exec_sound {ops : Array Oper} {kp : AV → AS → Prop} {Q : Exit → Act → World → Prop} {K : AS → Prop} (hp : ∀ x v st' th' z' a' w', kp x st' → Sim E N st' th' z' a' w' → Rep w' z' th' x v → Q (.panic [{ v := v, recovered := false }]) a' w')
    (hK : ∀ st' th' z' a' w', K st' → Sim E N st' th' z' a' w' → Q .normal a' w') : ∀ (l : List Oper), (∀ o ∈ l, ∀ i, o.dst = some i → i < N) → ∀ {st : AS} {th : List NLoc} {z : Zone} {a : Act} {w : World}, Sim E N st th z a w → exec P E N (dsOf ops) kp l st K → wpList P ops Q l a w
  | [], _, st, th, z, a, w, h, hx => hK st th z a w hx h
  | o :: rest, hd, st, th, z, a, w, h, hx => by
    have ih : ∀ {st : AS} {th : List NLoc} {z : Zone} {a : Act} {w : World}, Sim E N st th z a w → exec P E N (dsOf ops) kp rest st K → wpList P ops Q rest a w := exec_sound hp hK rest (fun o ho => hd o (by simp [ho]))
    have hdo := hd o (by simp)
    have go : stepA P E N st o.op (fun v st' => exec P E N (dsOf ops) kp rest (st'.put o.dst v) K) kp → o.wp P a w (wpList P ops Q rest) Q := fun hs =>
      stepA_sound h o hs hdo (fun x st' th' z' a' w' h1 h2 => ih h2 h1) (fun x v st' th' z' w' h1 h2 h3 => hp x v st' th' z' a w' h1 h2 h3)
    have skip : exec P E N (dsOf ops) kp rest (st.put o.dst (.r (.tuple #[]))) K → wpList P ops Q rest (a.put o.dst undef) w := fun hs => ih (h.put (.r th undef) o.dst hdo) hs
    unfold exec at hx
    unfold wpList
    rcases guard_sound h hx with ⟨hw, hs⟩ | ⟨hw, hs⟩
    · rw [if_pos hw]; exact .inl (go hs)
    · rw [if_neg (by rw [hw]; exact Bool.false_ne_true)]; exact skip hs
/-- Where a piece of code may end. -/
inductive AExit where
  | normal
  | exit (id : Nat)
  | ret
  | pan (v : AV)
/-- A condition on worlds bears one on states. -/
def QOK (E : Env) (N : Nat) (Q : Exit → Act → World → Prop) (AQ : AExit → AS → Prop) : Prop :=
  (∀ st th z a w, AQ .normal st → Sim E N st th z a w → Q .normal a w) ∧ (∀ id st th z a w, AQ (.exit id) st → Sim E N st th z a w → Q (.exit id) a w) ∧ (∀ st th z a w, AQ .ret st → Sim E N st th z a w → Q .ret a w) ∧
    ∀ x v st th z w, AQ (.pan x) st → Mem E st.o st.n th z w → Rep w z th x v → ∀ a : Act, a.defers = [] → Q (.panic [{ v := v, recovered := false }]) a w
/-- A piece of code, from a state on. -/
def AWP (P : Program) (E : Env) (N : Nat) (c : Code) (st : AS) (AQ : AExit → AS → Prop) : Prop :=
  ∀ Q, QOK E N Q AQ → ∀ th z a w, Sim E N st th z a w → c.wp P Q a w
def dstOK (N : Nat) (ops : Array Oper) : Bool := ops.all fun o => match o.dst with | some d => decide (d < N) | none => true
theorem dstOK_spec {ops : Array Oper} (h : dstOK N ops = true) : ∀ o ∈ ops.toList, ∀ i, o.dst = some i → i < N := by
  intro o ho i hi
  simp only [dstOK, Array.all_eq_true', Array.mem_def] at h
  have := h o ho
  rw [hi] at this
  simpa using this
variable {AQ : AExit → AS → Prop}
theorem awp_region {id : Nat} {ops : Array Oper} {ds : List (Option Nat)} {l : List Oper} (hd : dstOK N ops = true) (hds : dsOf ops = ds) (hl : ops.toList = l) (h : exec P E N ds (fun x st => AQ (.pan x) st) l st (AQ .normal)) : AWP P E N (.region id ops false) st AQ := by
  subst hds hl
  exact fun _ hQ _ _ _ _ hs => wp_region_list (exec_sound (fun x v st' th' z' a' w' h1 h2 h3 => hQ.2.2.2 x v st' th' z' w' h1 h2.mem h3 a' h2.dfs) (fun st' th' z' a' w' h1 h2 => hQ.1 st' th' z' a' w' h1 h2) ops.toList (dstOK_spec hd) hs h)
@[congr] theorem AWP_congr {c : Code} {st st' : AS} (h : st = st') : AWP P E N c st AQ = AWP P E N c st' AQ := by rw [h]
theorem awp_skip (h : AQ .normal st) : AWP P E N .skip st AQ := fun _ hQ th z a w hs => wp_skip (hQ.1 st th z a w h hs)
theorem awp_exit {id : Nat} (h : AQ (.exit id) st) : AWP P E N (.exit id) st AQ := fun _ hQ th z a w hs => wp_exit (hQ.2.1 id st th z a w h hs)
theorem awp_ret (h : AQ .ret st) : AWP P E N .ret st AQ := fun _ hQ th z a w hs => wp_ret (hQ.2.2.1 st th z a w h hs)
/-- What is to be shown behind a first piece. -/
def thenA (K : AS → Prop) (AQ : AExit → AS → Prop) : AExit → AS → Prop
  | .normal, st => K st
  | e, st => AQ e st
def blockA (id : Nat) (AQ : AExit → AS → Prop) : AExit → AS → Prop
  | .exit id', st => match Nat.beq id' id with
    | true => AQ .normal st
    | false => AQ (.exit id') st
  | e, st => AQ e st
theorem awp_seq {x y : Code} (h : AWP P E N x st (thenA (fun st' => AWP P E N y st' AQ) AQ)) : AWP P E N (.seq x y) st AQ := by
  intro Q hQ th z a w hs
  refine wp_seq (h _ ⟨?_, ?_, ?_, ?_⟩ th z a w hs)
  · intro st' th' z' a' w' h1 h2; exact h1 Q hQ th' z' a' w' h2
  · intro id st' th' z' a' w' h1 h2; exact hQ.2.1 id st' th' z' a' w' h1 h2
  · intro st' th' z' a' w' h1 h2; exact hQ.2.2.1 st' th' z' a' w' h1 h2
  · intro x v st' th' z' w' h1 h2 h3 a' h4; exact hQ.2.2.2 x v st' th' z' w' h1 h2 h3 a' h4
theorem AWP.mono {c : Code} {AQ' : AExit → AS → Prop} (h : AWP P E N c st AQ) (hq : ∀ e st, AQ e st → AQ' e st) : AWP P E N c st AQ' := fun Q hQ =>
  h Q ⟨fun st th z a w h1 h2 => hQ.1 st th z a w (hq _ _ h1) h2, fun id st th z a w h1 h2 => hQ.2.1 id st th z a w (hq _ _ h1) h2, fun st th z a w h1 h2 => hQ.2.2.1 st th z a w (hq _ _ h1) h2, fun x v st th z w h1 h2 h3 a h4 => hQ.2.2.2 x v st th z w (hq _ _ h1) h2 h3 a h4⟩
theorem awp_seq_k {x y : Code} (h : ∀ K : AS → Prop, (∀ st', AWP P E N y st' AQ → K st') → AWP P E N x st (thenA K AQ)) : AWP P E N (.seq x y) st AQ := awp_seq (h _ fun _ h => h)
theorem awp_block {id : Nat} {c : Code} (h : AWP P E N c st (blockA id AQ)) : AWP P E N (.block id c) st AQ := by
  intro Q hQ th z a w hs
  refine wp_block (h _ ⟨?_, ?_, ?_, ?_⟩ th z a w hs)
  · intro st' th' z' a' w' h1 h2; exact hQ.1 st' th' z' a' w' h1 h2
  · intro id' st' th' z' a' w' h1 h2
    simp only [blockA] at h1
    simp only [Exit.inBlock]
    split at h1
    · rename_i e; rw [if_pos (Nat.eq_of_beq_eq_true e)]; exact hQ.1 st' th' z' a' w' h1 h2
    · rename_i e; rw [if_neg (Nat.ne_of_beq_eq_false e)]; exact hQ.2.1 id' st' th' z' a' w' h1 h2
  · intro st' th' z' a' w' h1 h2; exact hQ.2.2.1 st' th' z' a' w' h1 h2
  · intro x v st' th' z' w' h1 h2 h3 a' h4; exact hQ.2.2.2 x v st' th' z' w' h1 h2 h3 a' h4
theorem awp_cond {c : Operand} {x y : Code} {b : Bool} (hc : ev st E.G c = some (.r (.bool b))) (ht : b = true → AWP P E N x st AQ) (hf : b = false → AWP P E N y st AQ) : AWP P E N (.cond c x y) st AQ := by
  intro Q hQ th z a w hs
  exact wp_cond_split (hs.eval_r hc) (fun h => ht h Q hQ th z a w hs) (fun h => hf h Q hQ th z a w hs)
theorem awp_cond_t {c : Operand} {x y : Code} (hc : ev st E.G c = some (.r (.bool true))) (ht : AWP P E N x st AQ) : AWP P E N (.cond c x y) st AQ := awp_cond hc (fun _ => ht) (fun h => by cases h)
theorem awp_cond_f {c : Operand} {x y : Code} (hc : ev st E.G c = some (.r (.bool false))) (hf : AWP P E N y st AQ) : AWP P E N (.cond c x y) st AQ := awp_cond hc (fun h => by cases h) (fun _ => hf)
end
end Go.AM
/- The abstract machine, 12: other numbers for own things; loops; contracts. -/
namespace Go.AM
open Go
mutual
def ren (f : Nat → Nat) : AV → AV
  | .s n lo len => .s (f n) lo len
  | .p n i off => .p (f n) i off
  | .agg c => .agg (renL f c)
  | .tup c => .tup (renL f c)
  | .fn g c => .fn g (renL f c)
  | .ifc t x => .ifc t (ren f x)
  | .r v => .r v
  | .ro t k els => .ro t k els
  | .re t c off => .re t c off
def renL (f : Nat → Nat) : List AV → List AV
  | [] => []
  | x :: r => ren f x :: renL f r
end
def renNd (f : Nat → Nat) : Nd → Nd
  | .box T c => .box T (renL f c)
  | .lst T k els => .lst T k els
theorem renL_get (f : Nat → Nat) : ∀ (c : List AV) (i : Nat), (renL f c)[i]? = (c[i]?).map (ren f)
  | [], i => by simp [renL]
  | x :: r, 0 => by simp [renL]
  | x :: r, i + 1 => by simp [renL, renL_get f r i]
theorem renL_length (f : Nat → Nat) : ∀ c : List AV, (renL f c).length = c.length
  | [] => rfl
  | x :: r => by simp [renL, renL_length f r]
section
variable {w : World} {z : Zone}
theorem Rep.unren {f : Nat → Nat} {th th' : List NLoc} {y : AV} {v : Value} (h : Rep w z th y v) (hf : ∀ (i : Nat) L, th[f i]? = some L → th'[i]? = some L) : ∀ x, y = ren f x → Rep w z th' x v := by
  induction h with
  | r th v => intro x hx; cases x <;> simp [ren] at hx; subst hx; exact .r _ _
  | nil th t k a c => intro x hx; cases x <;> simp [ren] at hx; obtain ⟨rfl, rfl, rfl⟩ := hx; exact .nil _ _ _ _ _
  | ro th t k els b o c ys hz hc hk hy h1 hx ih => intro x hx'; cases x <;> simp [ren] at hx'; obtain ⟨rfl, rfl, rfl⟩ := hx'; exact .ro _ _ _ _ b o c ys hz hc hk hy h1 hx
  | re th t c b o off ys hz hy hx ih => intro x hx'; cases x <;> simp [ren] at hx'; obtain ⟨rfl, rfl, rfl⟩ := hx'; exact .re _ _ _ b o _ ys hz hy hx
  | s th n lo len c o L hL hp hl hc ho => intro x hx; cases x <;> simp [ren] at hx; obtain ⟨rfl, rfl, rfl⟩ := hx; exact .s _ _ _ _ c o L (hf _ _ hL) hp hl hc ho
  | sn th n lo L hL hp => intro x hx; cases x <;> simp [ren] at hx; obtain ⟨rfl, rfl, rfl⟩ := hx; exact .sn _ _ _ L (hf _ _ hL) hp
  | p th n i off L hL => intro x hx; cases x <;> simp [ren] at hx; obtain ⟨rfl, rfl, rfl⟩ := hx; exact .p _ _ _ _ L (hf _ _ hL)
  | agg th c ys hl hx ih =>
    intro x hx'; cases x <;> simp [ren] at hx'; subst hx'
    refine .agg _ _ ys (by rw [hl, renL_length]) (fun i x y h1 h2 => ih i (ren f x) y (by rw [renL_get, h1]; rfl) h2 hf x rfl)
  | tup th c ys hl hx ih =>
    intro x hx'; cases x <;> simp [ren] at hx'; subst hx'
    refine .tup _ _ ys (by rw [hl, renL_length]) (fun i x y h1 h2 => ih i (ren f x) y (by rw [renL_get, h1]; rfl) h2 hf x rfl)
  | fn th g c ys hl hx ih =>
    intro x hx'; cases x <;> simp [ren] at hx'; obtain ⟨rfl, rfl⟩ := hx'
    refine .fn _ _ _ ys (by rw [hl, renL_length]) (fun i x y h1 h2 => ih i (ren f x) y (by rw [renL_get, h1]; rfl) h2 hf x rfl)
  | ifc th t y v hx ih =>
    intro x hx'; cases x <;> simp [ren] at hx'; obtain ⟨rfl, rfl⟩ := hx'
    exact .ifc _ _ _ _ (ih hf _ rfl)
theorem Rep.ren {f : Nat → Nat} {th th' : List NLoc} {x : AV} {v : Value} (h : Rep w z th x v) (hf : ∀ (i : Nat) L, th[i]? = some L → th'[f i]? = some L) : Rep w z th' (ren f x) v := by
  induction h with
  | r th v => exact .r _ _
  | nil th t k a c => exact .nil _ _ _ _ _
  | ro th t k els b o c ys hz hc hk hy h1 hx ih => exact .ro _ _ _ _ b o c ys hz hc hk hy h1 hx
  | re th t c b o off ys hz hy hx ih => exact .re _ _ _ b o _ ys hz hy hx
  | s th n lo len c o L hL hp hl hc ho => exact .s _ _ _ _ c o L (hf _ _ hL) hp hl hc ho
  | sn th n lo L hL hp => exact .sn _ _ _ L (hf _ _ hL) hp
  | p th n i off L hL => exact .p _ _ _ _ L (hf _ _ hL)
  | agg th c ys hl hx ih =>
    refine .agg _ _ ys (by rw [hl, renL_length]) (fun i x y h1 h2 => ?_)
    rw [renL_get, Option.map_eq_some_iff] at h1
    obtain ⟨x', h3, rfl⟩ := h1
    exact ih i x' y h3 h2 hf
  | tup th c ys hl hx ih =>
    refine .tup _ _ ys (by rw [hl, renL_length]) (fun i x y h1 h2 => ?_)
    rw [renL_get, Option.map_eq_some_iff] at h1
    obtain ⟨x', h3, rfl⟩ := h1
    exact ih i x' y h3 h2 hf
  | fn th g c ys hl hx ih =>
    refine .fn _ _ _ ys (by rw [hl, renL_length]) (fun i x y h1 h2 => ?_)
    rw [renL_get, Option.map_eq_some_iff] at h1
    obtain ⟨x', h3, rfl⟩ := h1
    exact ih i x' y h3 h2 hf
  | ifc th t y v hx ih => exact .ifc _ _ _ _ (ih hf)
theorem Reps.unren {f : Nat → Nat} {th th' : List NLoc} {c : List AV} {ys : List Value} (h : Reps w z th (renL f c) ys) (hf : ∀ (i : Nat) L, th[f i]? = some L → th'[i]? = some L) : Reps w z th' c ys :=
  ⟨by rw [h.1, renL_length], fun i x y h1 h2 => (h.2 i (Go.AM.ren f x) y (by rw [renL_get, h1]; rfl) h2).unren hf x rfl⟩
theorem Reps.ren {f : Nat → Nat} {th th' : List NLoc} {c : List AV} {ys : List Value} (h : Reps w z th c ys) (hf : ∀ (i : Nat) L, th[i]? = some L → th'[f i]? = some L) : Reps w z th' (renL f c) ys := by
  refine ⟨by rw [h.1, renL_length], fun i x y h1 h2 => ?_⟩
  rw [renL_get, Option.map_eq_some_iff] at h1
  obtain ⟨x', h3, rfl⟩ := h1
  exact (h.2 i x' y h3 h2).ren hf
theorem NdAt.unren {f : Nat → Nat} {th th' : List NLoc} {L : NLoc} {nd : Nd} (h : NdAt w z th L (renNd f nd)) (hf : ∀ (i : Nat) L, th[f i]? = some L → th'[i]? = some L) : NdAt w z th' L nd := by
  cases nd with
  | box T c => obtain ⟨hp, cells, fr, h1, h2, h3, h4⟩ := h; exact ⟨hp, cells, fr, h1, h2, h3, h4.unren hf⟩
  | lst T k els => exact h
theorem NdAt.ren {f : Nat → Nat} {th th' : List NLoc} {L : NLoc} {nd : Nd} (h : NdAt w z th L nd) (hf : ∀ (i : Nat) L, th[i]? = some L → th'[f i]? = some L) : NdAt w z th' L (renNd f nd) := by
  cases nd with
  | box T c => obtain ⟨hp, cells, fr, h1, h2, h3, h4⟩ := h; exact ⟨hp, cells, fr, h1, h2, h3, h4.ren hf⟩
  | lst T k els => exact h
end
/-- Numbers by a list. -/
def by_ (ρ : List Nat) (i : Nat) : Nat := match ρ[i]? with
  | some j => j
  | none => i + 1000000000
section
variable {P : Program} {E : Env} {N : Nat} {st : AS} {th : List NLoc} {z : Zone} {a : Act} {w : World}
/-- A state is borne by another one, under other numbers. -/
def Emb (E : Env) (N : Nat) (st st' : AS) : Prop := ∀ th z a w, Sim E N st th z a w → ∃ th' z', Sim E N st' th' z' a w
def okO (ρ : List Nat) (o o' : List (Nat × Nd)) : Prop := ∀ p ∈ o', ∃ j, ρ[p.1]? = some j ∧ lk o j = some (renNd (by_ ρ) p.2)
def okM (ρ : List Nat) (m m' : List (Nat × AV)) : Prop := ∀ p ∈ m', lk m p.1 = some (ren (by_ ρ) p.2)
theorem lk_mem {α : Type} : ∀ {o : List (Nat × α)} {i : Nat} {x : α}, lk o i = some x → (i, x) ∈ o
  | [], _, _, h => by simp [lk] at h
  | (j, y) :: r, i, x, h => by
    simp only [lk] at h
    split at h
    · rename_i e; subst e; cases h; simp
    · exact List.mem_cons_of_mem _ (lk_mem h)
def thOf (th : List NLoc) (ρ : List Nat) : List NLoc := ρ.map fun j => (th[j]?).getD ⟨0, 0, 0, 0, false⟩
theorem thOf_get {ρ : List Nat} (hr : ∀ j ∈ ρ, j < th.length) {i j : Nat} (h : ρ[i]? = some j) : (thOf th ρ)[i]? = th[j]? := by
  have := hr j (List.mem_of_getElem? h)
  simp [thOf, h, this]
theorem thOf_by {ρ : List Nat} (hr : ∀ j ∈ ρ, j < th.length) (hb : th.length ≤ 1000000000) (i : Nat) (L : NLoc) (h : th[by_ ρ i]? = some L) : (thOf th ρ)[i]? = some L := by
  unfold by_ at h
  split at h
  · rename_i j hj; rw [thOf_get hr hj]; exact h
  · have := (List.getElem?_eq_some_iff.1 h).1; omega
/-- Memory, under other numbers. -/
theorem Mem.ren {o o' : List (Nat × Nd)} {n : Nat} (h : Mem E o n th z w) (ρ : List Nat) (hr : ∀ j ∈ ρ, j < n) (hb : n ≤ 1000000000) (ho : okO ρ o o') (hpre : ∀ i, i < E.th0.length → ρ[i]? = some i) (hnd : ρ.Nodup) : Mem E o' ρ.length (thOf th ρ) z w := by
  have hr' : ∀ j ∈ ρ, j < th.length := fun j hj => by rw [h.len]; exact hr j hj
  have hb' : th.length ≤ 1000000000 := by rw [h.len]; exact hb
  have get : ∀ i nd, lk o' i = some nd → ∃ j, ρ[i]? = some j ∧ lk o j = some (renNd (by_ ρ) nd) := fun i nd hi => ho _ (lk_mem hi)
  refine ⟨by simp [thOf], fun i nd hi => ?_, fun i i' x y L M hi hi' hL hM e1 e2 hbb => ?_, h.zlt, h.grow, h.frame, h.zin, h.zout, h.zb, h.globs, fun i L hi => ?_, h.sys⟩
  · obtain ⟨j, hj, hnd⟩ := get i nd hi
    obtain ⟨L, k1, k2, k3⟩ := h.nds j _ hnd
    exact ⟨L, by rw [thOf_get hr' hj]; exact k1, k2.unren (thOf_by hr' hb'), k3⟩
  · obtain ⟨j, hj, hx⟩ := get i x hi
    obtain ⟨j', hj', hy⟩ := get i' y hi'
    rw [thOf_get hr' hj] at hL
    rw [thOf_get hr' hj'] at hM
    have := h.inj j j' _ _ L M hx hy hL hM e1 e2 hbb
    subst this
    obtain ⟨l1, e1⟩ := List.getElem?_eq_some_iff.1 hj
    obtain ⟨l2, e2⟩ := List.getElem?_eq_some_iff.1 hj'
    exact (List.getElem?_inj l1 hnd).1 (hj.trans hj'.symm)
  · have hi' : i < E.th0.length := (List.getElem?_eq_some_iff.1 hi).1
    rw [thOf_get hr' (hpre i hi')]
    exact h.pre i L hi
theorem emb (ρ : List Nat) {st st' : AS} (hm : okM ρ st.m st'.m) (ho : okO ρ st.o st'.o) (hn : st'.n = ρ.length) (hr : ∀ j ∈ ρ, j < st.n) (hb : st.n ≤ 1000000000) (hpre : ∀ i, i < E.th0.length → ρ[i]? = some i) (hnd : ρ.Nodup) : Emb E N st st' := by
  intro th z a w h
  refine ⟨thOf th ρ, z, ?_, h.size, h.dfs, fun i x hi => ?_⟩
  · rw [hn]; exact h.mem.ren ρ hr hb ho hpre hnd
  · obtain ⟨y, hy, hrep⟩ := h.slots i _ (hm _ (lk_mem hi))
    exact ⟨y, hy, hrep.unren (thOf_by (fun j hj => by rw [h.mem.len]; exact hr j hj) (by rw [h.mem.len]; exact hb)) x rfl⟩
theorem Emb.refl : Emb E N st st := fun th z a w h => ⟨th, z, h⟩
theorem Emb.trans {s1 s2 s3 : AS} (h : Emb E N s1 s2) (h' : Emb E N s2 s3) : Emb E N s1 s3 := fun th z a w hs => let ⟨_, _, h1⟩ := h th z a w hs; h' _ _ _ _ h1
theorem AWP.emb {c : Code} {AQ : AExit → AS → Prop} {st st' : AS} (h : Emb E N st st') (hc : AWP P E N c st' AQ) : AWP P E N c st AQ := fun Q hQ th z a w hs => let ⟨th', z', h1⟩ := h th z a w hs; hc Q hQ th' z' a w h1
theorem exists_min (p : Nat → Prop) : ∀ n, p n → ∃ m, p m ∧ ∀ k, p k → m ≤ k := by
  intro n
  induction n using Nat.strongRecOn with
  | _ n ih =>
    intro hn
    by_cases h : ∃ m, m < n ∧ p m
    · obtain ⟨m, h1, h2⟩ := h; exact ih m h1 h2
    · exact ⟨n, hn, fun k hk => Nat.le_of_not_lt fun hlt => h ⟨k, hlt, hk⟩⟩
/-- What a round of a loop may come to. -/
def loopA {ι : Type} (E : Env) (N : Nat) (I : ι → AS) (ok : ι → Prop) (μ : ι → Nat) (i : ι) (AQ : AExit → AS → Prop) : AExit → AS → Prop
  | .normal, st => ∃ i', ok i' ∧ μ i' < μ i ∧ Emb E N st (I i')
  | e, st => AQ e st
theorem nextA {ι : Type} {I : ι → AS} {ok : ι → Prop} {μ : ι → Nat} {i : ι} {AQ : AExit → AS → Prop} (i' : ι) (h1 : ok i') (h2 : μ i' < μ i) (h3 : Emb E N st (I i')) : loopA E N I ok μ i AQ .normal st := ⟨i', h1, h2, h3⟩
theorem nextB {ι : Type} {I : ι → AS} {ok : ι → Prop} {μ : ι → Nat} {i : ι} {AQ : AExit → AS → Prop} {id : Nat} (i' : ι) (h1 : ok i') (h2 : μ i' < μ i) (h3 : Emb E N st (I i')) : blockA id (loopA E N I ok μ i AQ) .normal st := ⟨i', h1, h2, h3⟩
/-- A loop: a family of states, one for each datum that is well. -/
theorem awp_loop {ι : Type} (I : ι → AS) (ok : ι → Prop) (μ : ι → Nat) (i0 : ι) {c : Code} {AQ : AExit → AS → Prop} (h0 : ok i0) (he : Emb E N st (I i0))
    (round : ∀ i, ok i → AWP P E N c (I i) (loopA E N I ok μ i AQ)) : AWP P E N (.loop c) st AQ := by
  classical
  intro Q hQ th z a w hs
  let p : Act → World → Nat → Prop := fun a w n => ∃ i, ok i ∧ μ i = n ∧ ∃ th z, Sim E N (I i) th z a w
  let m : Act → World → Nat := fun a w => if h : ∃ n, p a w n then (exists_min (p a w) h.choose h.choose_spec).choose else 0
  have hm : ∀ a w n, p a w n → p a w (m a w) ∧ m a w ≤ n := by
    intro a w n hn
    have h : ∃ n, p a w n := ⟨n, hn⟩
    have := (exists_min (p a w) h.choose h.choose_spec).choose_spec
    simp only [m, dif_pos h]
    exact ⟨this.1, this.2 n hn⟩
  obtain ⟨th1, z1, h1⟩ := he th z a w hs
  refine wp_loop (fun a w => ∃ n, p a w n) m ⟨μ i0, i0, h0, rfl, th1, z1, h1⟩ (fun a w ⟨n, hn⟩ => ?_)
  obtain ⟨⟨i, hok, hμ, th2, z2, h2⟩, _⟩ := hm a w n hn
  refine round i hok _ ⟨?_, ?_, ?_, ?_⟩ th2 z2 a w h2
  · rintro st' th' z' a' w' ⟨i', hok', hlt, hemb⟩ hs'
    obtain ⟨th3, z3, h3⟩ := hemb th' z' a' w' hs'
    have hp : p a' w' (μ i') := ⟨i', hok', rfl, th3, z3, h3⟩
    exact ⟨⟨μ i', hp⟩, by have := (hm a' w' _ hp).2; omega⟩
  · intro id st' th' z' a' w' h1 h2; exact hQ.2.1 id st' th' z' a' w' h1 h2
  · intro st' th' z' a' w' h1 h2; exact hQ.2.2.1 st' th' z' a' w' h1 h2
  · intro x v st' th' z' w' h1 h2 h3 a' h4; exact hQ.2.2.2 x v st' th' z' w' h1 h2 h3 a' h4
theorem wrapA {n : Int} (h1 : -9223372036854775808 ≤ n) (h2 : n ≤ 9223372036854775807) : IntKind.i64.wrap n = n := Go.IntWalk.i64_in n ⟨h1, h2⟩
/-- The entry: the arguments in the first slots. -/
def ent : Nat → List AV → List (Nat × AV)
  | _, [] => []
  | i, x :: r => (i, x) :: ent (i + 1) r
theorem lk_ent : ∀ (c : List AV) (s i : Nat) (x : AV), lk (ent s c) i = some x → s ≤ i ∧ c[i - s]? = some x
  | [], s, i, x, h => by simp [ent, lk] at h
  | y :: r, s, i, x, h => by
    simp only [ent, lk] at h
    split at h
    · rename_i e; subst e; cases h; simp
    · rename_i e
      obtain ⟨h1, h2⟩ := lk_ent r (s + 1) i x h
      exact ⟨by omega, by rw [show i - s = (i - (s + 1)) + 1 by omega, List.getElem?_cons_succ]; exact h2⟩
def rvA (P : Program) (st : AS) : ResultVar → Option AV
  | .tmp t => lk st.m t
  | .cell t T => match tyOf P T, lk st.m t with
    | some y, some x => match cellsAt st x with
      | some (c, off) => pickC y c off
      | none => none
    | _, _ => none
def rvsA (P : Program) (st : AS) : List ResultVar → Option (List AV)
  | [] => some []
  | x :: r => match rvA P st x, rvsA P st r with
    | some a, some l => some (a :: l)
    | _, _ => none
def oneA : List AV → AV
  | [x] => x
  | l => .tup l
/-- A state and a value are borne by own things and a value, under other numbers. -/
def EmbV (E : Env) (st : AS) (x : AV) (o : List (Nat × Nd)) (n : Nat) (y : AV) : Prop := ∀ th z w v, Mem E st.o st.n th z w → Rep w z th x v → ∃ th' z', Mem E o n th' z' w ∧ Rep w z' th' y v
theorem embV (ρ : List Nat) {x y : AV} {o' : List (Nat × Nd)} (hx : x = ren (by_ ρ) y) (ho : okO ρ st.o o') (hr : ∀ j ∈ ρ, j < st.n) (hb : st.n ≤ 1000000000) (hpre : ∀ i, i < E.th0.length → ρ[i]? = some i) (hnd : ρ.Nodup) : EmbV E st x o' ρ.length y := by
  intro th z w v h hv
  exact ⟨thOf th ρ, z, h.ren ρ hr hb ho hpre hnd, hv.unren (thOf_by (fun j hj => by rw [h.len]; exact hr j hj) (by rw [h.len]; exact hb)) y hx⟩
theorem embV_nil {x y : AV} (hE : E.th0.length = 0) (hb : st.n ≤ 1000000000) (hx : x = ren (by_ []) y) : EmbV E st x [] 0 y :=
  embV [] hx (fun p hp => by cases hp) (fun j hj => by cases hj) hb (fun i hi => by omega) List.nodup_nil
def EmbS (E : Env) (N : Nat) (st : AS) (x : AV) (o : List (Nat × Nd)) (n : Nat) (y : AV) : Prop := ∀ th z a w v, Sim E N st th z a w → Rep w z th x v → ∃ th' z', Mem E o n th' z' w ∧ Rep w z' th' y v
theorem EmbV.s {x y : AV} {o : List (Nat × Nd)} {n : Nat} (h : EmbV E st x o n y) : EmbS E N st x o n y := fun th z _ w v hs hr => h th z w v hs.mem hr
/-- What a call leaves: its value and the own things. -/
def retA (P : Program) (E : Env) (N : Nat) (rs : List ResultVar) (Q R : AV → List (Nat × Nd) → Nat → Prop) : AExit → AS → Prop
  | .normal, st | .ret, st => match rvsA P st rs with
    | some l => ∃ y o n, Q y o n ∧ EmbS E N st (oneA l) o n y
    | none => False
  | .pan x, st => ∃ y o n, R y o n ∧ EmbV E st x o n y
  | _, _ => False
/-- A contract: arguments, own things that they bear, what is given back. -/
def Con (P : Program) (G : List (Nat × List Value)) (f : Nat) (xs : List AV) (o : List (Nat × Nd)) (n : Nat) (Q R : AV → List (Nat × Nd) → Nat → Prop) : Prop :=
  okFn P f = true ∧ ∀ (w : World) (th : List NLoc) (z : Zone) (own : Nat → Prop) (vs : List Value), (∀ b, own b ↔ ∃ i nd L, lk o i = some nd ∧ th[i]? = some L ∧ L.ph = false ∧ L.b = b) → Mem ⟨w, own, z, G, th⟩ o n th z w → Reps w z th xs vs →
    Calls P f vs.toArray w (fun e w' => ∃ v y o' n' th' z', ((e = .returned v ∧ Q y o' n') ∨ (e = .panicked [{ v := v, recovered := false }] ∧ R y o' n')) ∧ Mem ⟨w, own, z, G, th⟩ o' n' th' z' w' ∧ Rep w' z' th' y v)
def rvS (tmps : Array Value) : ResultVar → Sem Value
  | .tmp t => pure (tmps.getD t undef)
  | .cell a t => do loadVar t (← asAddr (tmps.getD a undef))
theorem rvA_sound (h : Sim E N st th z a w) {x : ResultVar} {y : AV} (hx : rvA P st x = some y) : ∃ v, Rep w z th y v ∧ (rvS a.tmps x).run P w = .ok v w := by
  cases x with
  | tmp t =>
    obtain ⟨v, hv, hr⟩ := h.slots t y hx
    exact ⟨v, hr, by simp [rvS, Array.getD_eq_getD_getElem?, hv]⟩
  | cell t T =>
    simp only [rvA] at hx
    split at hx
    · rename_i ty x hT hl
      split at hx
      · rename_i c off hc
        obtain ⟨u, hu, hr⟩ := h.slots t _ hl
        obtain ⟨b, o, rfl, hlt, hcell⟩ := cellsAt_sound h hr hc
        obtain ⟨v, hrv, hrun⟩ := run_loadVar (P := P) hT hx (fun _ => .inr trivial) hcell
        refine ⟨v, hrv, ?_⟩
        simp only [rvS, Array.getD_eq_getD_getElem?, hu, Option.getD_some, asAddr, Sem.run_bind, Sem.run_pure, Result.andThen_ok]
        exact hrun w (fun _ => rfl)
      · cases hx
    · cases hx
theorem rvsA_sound (h : Sim E N st th z a w) : ∀ {rs : List ResultVar} {l : List AV}, rvsA P st rs = some l → ∃ vs, Reps w z th l vs ∧ (rs.mapM (rvS a.tmps)).run P w = .ok vs w
  | [], l, he => by simp only [rvsA, Option.some.injEq] at he; subst he; exact ⟨[], .nil, by simp⟩
  | x :: r, l, he => by
    simp only [rvsA] at he
    split at he
    · rename_i y l' h1 h2; cases he
      obtain ⟨v, hv, hrun⟩ := rvA_sound (P := P) h h1
      obtain ⟨vs, hvs, hrun'⟩ := rvsA_sound h h2
      refine ⟨v :: vs, .cons hv hvs, ?_⟩
      rw [List.mapM_cons, Sem.run_bind, hrun, Result.andThen_ok, Sem.run_bind, hrun', Result.andThen_ok]; rfl
    · cases he
theorem results_sound (h : Sim E N st th z a w) {fn : Func} {l : List AV} (hl : rvsA P st fn.results.toList = some l) : ∃ v, Rep w z th (oneA l) v ∧ (results fn a.tmps).run P w = .ok v w := by
  obtain ⟨vs, hvs, hrun⟩ := rvsA_sound (P := P) h hl
  have hm : (fn.results.mapM (rvS a.tmps)).run P w = .ok vs.toArray w := by
    rw [show fn.results = fn.results.toList.toArray by simp, List.mapM_toArray, Sem.run_map]
    simp only [hrun, Result.andThen_ok]
  have e : results fn a.tmps = (do let vs ← fn.results.mapM (rvS a.tmps); pure (if h : vs.size = 1 then vs[0] else .tuple vs)) := rfl
  refine ⟨if h : vs.toArray.size = 1 then vs.toArray[0] else .tuple vs.toArray, ?_, ?_⟩
  · unfold oneA
    split
    · rename_i x
      obtain ⟨v, r, rfl, hv, hr⟩ := hvs.head
      obtain rfl := hr.of_nil
      simpa using hv
    · rename_i hne
      have hlen : vs.toArray.size ≠ 1 := by
        intro hh
        have : l.length = 1 := by rw [← hvs.1]; simpa using hh
        obtain ⟨x, rfl⟩ := List.length_eq_one_iff.1 this
        exact hne x rfl
      rw [dif_neg hlen]
      exact .tup th l vs hvs.1 hvs.2
  · rw [e, Sem.run_bind, hm]; rfl
theorem con_of_awp {G : List (Nat × List Value)} {f : Nat} {fn : Func} {c : Code} {xs : List AV} {o : List (Nat × Nd)} {n : Nat} {Q R : AV → List (Nat × Nd) → Nat → Prop} (hf : P.funcs[f]? = some fn) (hb : fn.body = some c) (hok : okFn P f = true) (hN : xs.length ≤ fn.ntmps)
    (h : ∀ E : Env, E.G = G → E.th0.length = n → AWP P E fn.ntmps c ⟨ent 0 xs, o, n⟩ (retA P E fn.ntmps fn.results.toList Q R)) : Con P G f xs o n Q R := by
  refine ⟨hok, fun w th z own vs hown hmem hr => calls_of_wp hf hb ?_⟩
  have hlen : vs.toArray.size = xs.length := by simpa using hr.1
  have hs : Sim ⟨w, own, z, G, th⟩ fn.ntmps ⟨ent 0 xs, o, n⟩ th z { tmps := vs.toArray ++ Array.replicate (fn.ntmps - vs.toArray.size) undef, defers := [] } w := by
    refine ⟨hmem, by simp; have := hr.1; omega, rfl, fun i x hi => ?_⟩
    obtain ⟨_, h2⟩ := lk_ent xs 0 i x hi
    rw [Nat.sub_zero] at h2
    obtain ⟨y, hy, hrep⟩ := hr.get h2
    refine ⟨y, ?_, hrep⟩
    have : i < vs.length := (List.getElem?_eq_some_iff.1 hy).1
    simp only [Array.getElem?_append, List.size_toArray, this, if_true]
    simpa using hy
  refine h ⟨w, own, z, G, th⟩ rfl hmem.len (bodyPost P fn _) ⟨?_, ?_, ?_, ?_⟩ th z _ w hs
  · intro st th z a w h1 h2
    simp only [retA] at h1
    split at h1
    · rename_i l hl
      obtain ⟨y, o', n', hq, he⟩ := h1
      obtain ⟨v, hv, hrun⟩ := results_sound (P := P) h2 hl
      obtain ⟨th', z', hm, hrep⟩ := he th z a w v h2 hv
      exact ⟨h2.dfs, v, hrun, v, y, o', n', th', z', .inl ⟨rfl, hq⟩, hm, hrep⟩
    · exact h1.elim
  · intro id st th z a w h1 h2; exact h1.elim
  · intro st th z a w h1 h2
    simp only [retA] at h1
    split at h1
    · rename_i l hl
      obtain ⟨y, o', n', hq, he⟩ := h1
      obtain ⟨v, hv, hrun⟩ := results_sound (P := P) h2 hl
      obtain ⟨th', z', hm, hrep⟩ := he th z a w v h2 hv
      exact ⟨h2.dfs, v, hrun, v, y, o', n', th', z', .inl ⟨rfl, hq⟩, hm, hrep⟩
    · exact h1.elim
  · intro x v st th z w h1 h2 h3 a h4
    obtain ⟨y, o', n', hq, he⟩ := h1
    obtain ⟨th', z', hm, hrep⟩ := he th z w v h2 h3
    exact ⟨h4, v, y, o', n', th', z', .inr ⟨rfl, hq⟩, hm, hrep⟩
end
end Go.AM
/- The abstract machine, 13: a call by a contract that bears no own things. -/
namespace Go.AM
open Go
/-- Read for good: nothing that is read for the time of the call alone is in it. -/
inductive PT : AV → Prop
  | r (v : Value) : PT (.r v)
  | ro (k : Nat) (els : List (List AV)) (h : ∀ e ∈ els, ∀ x ∈ e, PT x) : PT (.ro true k els)
  | re (c : List AV) (off : Nat) (h : ∀ x ∈ c, PT x) : PT (.re true c off)
  | s (n lo len : Nat) : PT (.s n lo len)
  | p (n i off : Nat) : PT (.p n i off)
  | agg (c : List AV) (h : ∀ x ∈ c, PT x) : PT (.agg c)
  | tup (c : List AV) (h : ∀ x ∈ c, PT x) : PT (.tup c)
  | ifc (t : Nat) (x : AV) (h : PT x) : PT (.ifc t x)
def PTNd : Nd → Prop
  | .box _ c => ∀ x ∈ c, PT x
  | .lst _ _ els => ∀ e ∈ els, ∀ x ∈ e, PT x
mutual
/-- As a callee may read it. -/
def bor (st : AS) : AV → Option AV
  | .s n lo len => match lk st.o n with
    | some (.lst _ k els) => if lo + len ≤ els.length then some (.ro false k ((els.drop lo).take len)) else none
    | _ => none
  | .p n i off => match lk st.o n with
    | some (.box _ c) => if i = 0 then (borC c).map fun c' => .re false c' off else none
    | _ => none
  | .r v => some (.r v)
  | .ro t k els => some (.ro t k els)
  | .re t c off => some (.re t c off)
  | .agg c => (borL st c).map .agg
  | .tup c => (borL st c).map .tup
  | .fn f c => (borL st c).map (.fn f)
  | .ifc t x => (bor st x).map (.ifc t)
def borL (st : AS) : List AV → Option (List AV)
  | [] => some []
  | x :: r => match bor st x, borL st r with
    | some a, some l => some (a :: l)
    | _, _ => none
/-- The cells of a box that bear no addresses of own things. -/
def borC : List AV → Option (List AV)
  | [] => some []
  | .r v :: r => (borC r).map (.r v :: ·)
  | .ro t k els :: r => (borC r).map (.ro t k els :: ·)
  | .re t c off :: r => (borC r).map (.re t c off :: ·)
  | _ :: _ => none
end
section
variable {P : Program} {E : Env} {N : Nat} {st : AS} {th : List NLoc} {z : Zone} {a : Act} {w : World}
/-- The callee's zones: what is read for good; all else that lies. -/
def zc (w : World) (z : Zone) : Zone := fun t b => if t then z true b else b < w.heap.size
theorem zc_sub (h : ∀ t b, z t b → b < w.heap.size) : ∀ t b, z t b → zc w z t b := by
  intro t b hb
  cases t
  · exact h _ b hb
  · exact hb
theorem Rep.ground {x : AV} {v : Value} (hr : Rep w z th x v) (hg : (∃ u, x = .r u) ∨ (∃ t k els, x = .ro t k els) ∨ ∃ t c off, x = .re t c off) (th' : List NLoc) : Rep w z th' x v := by
  cases hr with
  | r _ v => exact .r _ _
  | nil _ t k a c => exact .nil _ _ _ _ _
  | ro _ t k els b o c ys hz hc hk hy h1 hx => exact .ro _ _ _ _ b o c ys hz hc hk hy h1 hx
  | re _ t c b o off ys hz hy hx => exact .re _ _ _ b o _ ys hz hy hx
  | _ => rcases hg with ⟨_, h⟩ | ⟨_, _, _, h⟩ | ⟨_, _, _, h⟩ <;> cases h
theorem borC_spec : ∀ {c c' : List AV}, borC c = some c' → c' = c ∧ ∀ x ∈ c, (∃ u, x = .r u) ∨ (∃ t k els, x = .ro t k els) ∨ ∃ t c off, x = .re t c off
  | [], c', h => by simp only [borC, Option.some.injEq] at h; subst h; simp
  | x :: r, c', h => by
    cases x <;> simp only [borC, Option.map_eq_some_iff] at h <;> try cases h
    all_goals
      rename_i hh
      obtain ⟨h1, rfl⟩ := hh
      obtain ⟨rfl, h2⟩ := borC_spec h1
      refine ⟨rfl, fun x hx => ?_⟩
      rcases List.mem_cons.1 hx with rfl | hx
      · simp
      · exact h2 x hx
mutual
theorem bor_sound (h : Sim E N st th z a w) : ∀ (x : AV) {y : AV} {v : Value}, bor st x = some y → Rep w z th x v → Rep w (zc w z) [] y v
  | .s n lo len, y, v, hb, hr => by
    simp only [bor] at hb
    split at hb
    · rename_i T k els hn
      split at hb
      · rename_i hle; cases hb
        obtain ⟨L, h1, h2, h3⟩ := h.mem.nds n _ hn
        exact hr.seen h1 h2 hle (fun hp => (h3 hp).1) (zc_sub h.mem.zlt) []
      · cases hb
    · cases hb
  | .p n i off, y, v, hb, hr => by
    simp only [bor] at hb
    split at hb
    · rename_i T c hn
      split at hb
      · rename_i hi; subst hi
        simp only [Option.map_eq_some_iff] at hb
        obtain ⟨c', hc, rfl⟩ := hb
        obtain ⟨rfl, hg⟩ := borC_spec hc
        obtain ⟨L, h1, ⟨hp, cells, fr, h2, h3, h4, h5⟩, h6⟩ := h.mem.nds n _ hn
        obtain ⟨h6, h7, h8⟩ := h6 hp
        obtain ⟨L', hL', rfl⟩ := hr.p_inv
        rw [h1] at hL'; cases hL'
        have := Rep.re_mk (w := w) (z := zc w z) (th := []) (t := false) (c := c') (b := L.b) (o := 0) (off := off) h6 (fun j x hj => by
          obtain ⟨y, hy, hr⟩ := h5.get hj
          refine ⟨y, ?_, (hr.ground (hg x (List.mem_of_getElem? hj)) []).on' ⟨zc_sub h.mem.zlt, fun _ _ _ => rfl⟩⟩
          rw [cell_of h2]; simpa using hy)
        simpa [h4] using this
      · cases hb
    · cases hb
  | .r u, y, v, hb, hr => by simp only [bor, Option.some.injEq] at hb; subst hb; exact (hr.ground (.inl ⟨_, rfl⟩) []).on' ⟨zc_sub h.mem.zlt, fun _ _ _ => rfl⟩
  | .ro t k els, y, v, hb, hr => by simp only [bor, Option.some.injEq] at hb; subst hb; exact (hr.ground (.inr (.inl ⟨_, _, _, rfl⟩)) []).on' ⟨zc_sub h.mem.zlt, fun _ _ _ => rfl⟩
  | .re t c off, y, v, hb, hr => by simp only [bor, Option.some.injEq] at hb; subst hb; exact (hr.ground (.inr (.inr ⟨_, _, _, rfl⟩)) []).on' ⟨zc_sub h.mem.zlt, fun _ _ _ => rfl⟩
  | .agg c, y, v, hb, hr => by
    simp only [bor, Option.map_eq_some_iff] at hb
    obtain ⟨c', hc, rfl⟩ := hb
    obtain ⟨ys, rfl, hys⟩ := hr.agg_inv
    have := borL_sound h c hc hys
    exact .agg _ _ _ this.1 this.2
  | .tup c, y, v, hb, hr => by
    simp only [bor, Option.map_eq_some_iff] at hb
    obtain ⟨c', hc, rfl⟩ := hb
    obtain ⟨ys, rfl, hys⟩ := hr.tup_inv
    have := borL_sound h c hc hys
    exact .tup _ _ _ this.1 this.2
  | .fn f c, y, v, hb, hr => by
    simp only [bor, Option.map_eq_some_iff] at hb
    obtain ⟨c', hc, rfl⟩ := hb
    cases hr with
    | fn _ _ _ ys hl hx =>
      have := borL_sound h c hc ⟨hl, hx⟩
      exact .fn _ _ _ _ this.1 this.2
  | .ifc t x, y, v, hb, hr => by
    simp only [bor, Option.map_eq_some_iff] at hb
    obtain ⟨c', hc, rfl⟩ := hb
    cases hr with
    | ifc _ _ _ u hu => exact .ifc _ _ _ _ (bor_sound h x hc hu)
theorem borL_sound (h : Sim E N st th z a w) : ∀ (c : List AV) {d : List AV} {vs : List Value}, borL st c = some d → Reps w z th c vs → Reps w (zc w z) [] d vs
  | [], d, vs, hb, hr => by
    simp only [borL, Option.some.injEq] at hb; subst hb
    obtain rfl := hr.of_nil; exact .nil
  | x :: r, d, vs, hb, hr => by
    simp only [borL] at hb
    split at hb
    · rename_i y l h1 h2; cases hb
      obtain ⟨v, vs', rfl, hv, hvs⟩ := hr.head
      exact .cons (bor_sound h x h1 hv) (borL_sound h r h2 hvs)
    · cases hb
end
/-- From the callee's zones back. -/
theorem Rep.back {z' z2 : Zone} {x : AV} {v : Value} (hr : Rep w z' th x v) (hz : ∀ b, z' true b → z2 true b) (hx : PT x) : Rep w z2 th x v := by
  induction hr with
  | r th v => exact .r _ _
  | nil th t k a c => exact .nil _ _ _ _ _
  | ro th t k els b o c ys hzb hc hk hy h1 hx' ih =>
    cases hx with
    | ro _ _ h => exact .ro _ _ _ _ b o c ys (hz _ hzb) hc hk hy h1 (fun i e j x he hj => ih i e j x he hj (h e (List.mem_of_getElem? he) x (List.mem_of_getElem? hj)))
  | re th t c b o off ys hzb hy hx' ih =>
    cases hx with
    | re _ _ h => exact .re _ _ _ b o _ ys (hz _ hzb) hy (fun j x hj => ih j x hj (h x (List.mem_of_getElem? hj)))
  | s th n lo len c x L hL hp hl hc ho => exact .s _ _ _ _ c x L hL hp hl hc ho
  | sn th n lo L hL hp => exact .sn _ _ _ L hL hp
  | p th n i off L hL => exact .p _ _ _ _ L hL
  | agg th c ys hl hx' ih =>
    cases hx with
    | agg _ h => exact .agg _ _ ys hl (fun i x y h1 h2 => ih i x y h1 h2 (h x (List.mem_of_getElem? h1)))
  | tup th c ys hl hx' ih =>
    cases hx with
    | tup _ h => exact .tup _ _ ys hl (fun i x y h1 h2 => ih i x y h1 h2 (h x (List.mem_of_getElem? h1)))
  | fn th f c ys hl hx' ih => cases hx
  | ifc th t x v hx' ih =>
    cases hx with
    | ifc _ _ h => exact .ifc _ _ _ _ (ih h)
theorem NdAt.back {z' z2 : Zone} {L : NLoc} {nd : Nd} (hn : NdAt w z' th L nd) (hz : ∀ b, z' true b → z2 true b) (hx : PTNd nd) : NdAt w z2 th L nd := by
  cases nd with
  | box T c =>
    obtain ⟨hp, cells, fr, h1, h2, h3, h4⟩ := hn
    exact ⟨hp, cells, fr, h1, h2, h3, h4.1, fun i x y hi hy => (h4.2 i x y hi hy).back hz (hx x (List.mem_of_getElem? hi))⟩
  | lst T k els =>
    rcases hn with hn | ⟨hp, cells, fr, h1, h2, h3, h4, h5, h6⟩
    · exact .inl hn
    exact .inr ⟨hp, cells, fr, h1, h2, h3, h4, h5, fun i e he => ⟨(h6 i e he).1, fun j x hj => let ⟨y, hy, hr, ho⟩ := (h6 i e he).2 j x hj; ⟨y, hy, hr.back hz (hx e (List.mem_of_getElem? he) x (List.mem_of_getElem? hj)), ho⟩⟩⟩
/-- The own things that a call leaves, numbered on. -/
def shO (d : Nat) (o : List (Nat × Nd)) : List (Nat × Nd) := o.map fun p => (p.1 + d, renNd (· + d) p.2)
theorem lk_append {α : Type} (o o' : List (Nat × α)) (i : Nat) : lk (o ++ o') i = match lk o i with | some x => some x | none => lk o' i := by
  induction o with
  | nil => simp [lk]
  | cons p r ih =>
    obtain ⟨j, x⟩ := p
    simp only [List.cons_append, lk]
    split
    · rfl
    · exact ih
theorem lk_shO (d : Nat) (o : List (Nat × Nd)) (i : Nat) : lk (shO d o) i = if d ≤ i then (lk o (i - d)).map (renNd (· + d)) else none := by
  induction o with
  | nil => simp [shO, lk]
  | cons p r ih =>
    obtain ⟨j, x⟩ := p
    simp only [shO, List.map_cons, lk] at ih ⊢
    by_cases h : j + d = i
    · subst h; simp
    · rw [if_neg h, ih]
      by_cases h2 : d ≤ i
      · rw [if_pos h2, if_pos h2, if_neg (by omega)]
      · rw [if_neg h2, if_neg h2]
def shZ (z z' : Zone) : Zone := fun t b => if t then z' true b else z false b
/-- A call by a contract without own things: all that was there is as it was. -/
theorem callG_of_con {f : Nat} {xs ys : List AV} {Q R : AV → List (Nat × Nd) → Nat → Prop} {k kp : AV → AS → Prop} (hc : Con P E.G f ys [] 0 Q R) (hb : borL st xs = some ys)
    (hk : ∀ y o n, Q y o n → PT y ∧ (∀ p ∈ o, PTNd p.2) ∧ k (ren (· + st.n) y) { st with o := shO st.n o ++ st.o, n := st.n + n })
    (hkp : ∀ y o n, R y o n → PT y ∧ (∀ p ∈ o, PTNd p.2) ∧ kp (ren (· + st.n) y) { st with o := shO st.n o ++ st.o, n := st.n + n }) : CallG P E N f xs st k kp := by
  refine ⟨hc.1, fun th z a w vs hs hr => ?_⟩
  have hz : ∀ t b, zc w z t b → b < w.heap.size := by
    intro t b h
    cases t
    · exact h
    · exact hs.mem.zlt _ _ h
  have hmem0 : Mem ⟨w, fun _ => False, zc w z, E.G, []⟩ [] 0 [] (zc w z) w := by
    refine ⟨rfl, fun i nd hi => by simp [lk] at hi, fun i j x y L M hi => by simp [lk] at hi, hz, Nat.le_refl _, fun _ _ _ => rfl, fun _ _ h => h, fun b h => .inl h, fun b h => h, fun g cs hg => ?_, fun i L hi => by simp at hi, Sys.refl w⟩
    obtain ⟨h1, h2⟩ := hs.mem.globs g cs hg
    exact ⟨h1, h2⟩
  refine (hc.2 w [] (zc w z) (fun _ => False) vs (fun b => by simp [lk]) hmem0 (borL_sound hs xs hb hr)).mono ?_
  rintro e w' ⟨v, y, o', n', th', z', hh, hm, hv⟩
  have ext : Ext w w' := ⟨hm.grow, fun b hb => hm.frame b hb (fun h => h), hm.sys⟩
  have main : PT y → (∀ p ∈ o', PTNd p.2) → Sim E N { st with o := shO st.n o' ++ st.o, n := st.n + n' } (th ++ th') (shZ z z') a w' ∧ Rep w' (shZ z z') (th ++ th') (ren (· + st.n) y) v := by
    intro hy ho
    have hsub : ∀ t b, z t b → shZ z z' t b := by
      intro t b hb
      cases t
      · exact hb
      · exact hm.zin true b hb
    have le : Le w z w' (shZ z z') := ext.le hsub hs.mem.zlt
    have hfw : ∀ (i : Nat) L, th'[i]? = some L → (th ++ th')[i + st.n]? = some L := by
      intro i L hi
      rw [List.getElem?_append_right (by rw [hs.mem.len]; omega), hs.mem.len, Nat.add_sub_cancel]; exact hi
    have hz1 : ∀ b, z' true b → shZ z z' true b := fun b hb => hb
    have fresh : ∀ b, z' true b → z true b ∨ w.heap.size ≤ b := by
      intro b hb
      rcases hm.zout b hb with h1 | h1 | h1
      · exact .inl h1
      · exact h1.elim
      · exact .inr h1
    have nodeold : ∀ i nd, lk st.o i = some nd → ∃ L, th[i]? = some L ∧ (L.ph = false → L.b < w.heap.size ∧ (∀ t, ¬ z t L.b)) ∧ i < st.n := by
      intro i nd hi
      obtain ⟨L, h1, h2, h3⟩ := hs.mem.nds i nd hi
      exact ⟨L, h1, fun hp => ⟨(h3 hp).1, (h3 hp).2.1⟩, by rw [← hs.mem.len]; exact (List.getElem?_eq_some_iff.1 h1).1⟩
    have nodenew : ∀ i nd, lk o' i = some nd → ∃ L, th'[i]? = some L ∧ (L.ph = false → w.heap.size ≤ L.b) := by
      intro i nd hi
      obtain ⟨L, h1, h2, h3⟩ := hm.nds i nd hi
      refine ⟨L, h1, fun hp => ?_⟩
      rcases (h3 hp).2.2 with h5 | h5
      · exact h5.elim
      · exact h5
    have look : ∀ i nd, lk (shO st.n o' ++ st.o) i = some nd → (st.n ≤ i ∧ ∃ x, lk o' (i - st.n) = some x ∧ nd = renNd (· + st.n) x) ∨ (i < st.n ∧ lk st.o i = some nd) := by
      intro i nd hi
      rw [lk_append, lk_shO] at hi
      by_cases h : st.n ≤ i
      · rw [if_pos h] at hi
        cases hq : lk o' (i - st.n) with
        | some x => rw [hq] at hi; simp at hi; exact .inl ⟨h, x, rfl, hi.symm⟩
        | none =>
          rw [hq] at hi; simp at hi
          obtain ⟨_, _, _, h5⟩ := nodeold i nd hi
          omega
      · rw [if_neg h] at hi
        simp at hi
        exact .inr ⟨by omega, hi⟩
    have hnewL : ∀ i L, st.n ≤ i → (th ++ th')[i]? = some L → th'[i - st.n]? = some L := by
      intro i L h hi
      rw [List.getElem?_append_right (by rw [hs.mem.len]; exact h), hs.mem.len] at hi; exact hi
    have holdL : ∀ i L, i < st.n → (th ++ th')[i]? = some L → th[i]? = some L := by
      intro i L h hi
      rw [List.getElem?_append_left (by rw [hs.mem.len]; exact h)] at hi; exact hi
    refine ⟨⟨⟨?_, ?_, ?_, ?_, ?_, ?_, ?_, ?_, ?_, ?_, ?_, ?_⟩, hs.size, hs.dfs, fun i x hi => ?_⟩, (hv.back hz1 hy).ren hfw⟩
    · simp [hs.mem.len, hm.len]
    · intro i nd hi
      rcases look i nd hi with ⟨h, x, hx, rfl⟩ | ⟨h, hx⟩
      · obtain ⟨L, h1, h2, h3⟩ := hm.nds _ x hx
        refine ⟨L, by have := hfw _ _ h1; rwa [Nat.sub_add_cancel h] at this, (h2.back hz1 (ho _ (lk_mem hx))).ren hfw, fun hp => ?_⟩
        obtain ⟨h3, h4, h5⟩ := h3 hp
        refine ⟨h3, fun t ht => ?_, ?_⟩
        · cases t
          · have := hs.mem.zlt _ _ ht
            rcases h5 with h5 | h5
            · exact h5
            · exact absurd this (Nat.not_lt.2 h5)
          · exact h4 true ht
        · rcases h5 with h5 | h5
          · exact h5.elim
          · exact .inr (Nat.le_trans hs.mem.grow h5)
      · obtain ⟨L, h1, h2, h3⟩ := hs.mem.nds i nd hx
        refine ⟨L, pre_get _ h1, h2.on le (fun hp => ext.same _ (h3 hp).1) th', fun hp => ?_⟩
        obtain ⟨h3, h4, h5⟩ := h3 hp
        refine ⟨Nat.lt_of_lt_of_le h3 ext.size, fun t ht => ?_, h5⟩
        cases t
        · exact h4 false ht
        · rcases fresh _ ht with h6 | h6
          · exact h4 true h6
          · omega
    · intro i j x y L M hi hj hL hM e1 e2 hb
      rcases look i x hi with ⟨h1, x1, hx1, rfl⟩ | ⟨h1, hx1⟩ <;> rcases look j y hj with ⟨h2, y1, hy1, rfl⟩ | ⟨h2, hy1⟩
      · have := hm.inj _ _ x1 y1 L M hx1 hy1 (hnewL i L h1 hL) (hnewL j M h2 hM) e1 e2 hb
        omega
      · obtain ⟨L1, q1, q2⟩ := nodenew _ _ hx1
        rw [hnewL i L h1 hL] at q1; cases q1
        obtain ⟨L2, q3, q4, _⟩ := nodeold _ _ hy1
        rw [holdL j M h2 hM] at q3; cases q3
        have := q2 e1; have := (q4 e2).1; omega
      · obtain ⟨L1, q1, q2⟩ := nodenew _ _ hy1
        rw [hnewL j M h2 hM] at q1; cases q1
        obtain ⟨L2, q3, q4, _⟩ := nodeold _ _ hx1
        rw [holdL i L h1 hL] at q3; cases q3
        have := q2 e2; have := (q4 e1).1; omega
      · exact hs.mem.inj i j x y L M hx1 hy1 (holdL i L h1 hL) (holdL j M h2 hM) e1 e2 hb
    · intro t b hb
      cases t
      · exact Nat.lt_of_lt_of_le (hs.mem.zlt _ _ hb) ext.size
      · exact hm.zlt _ _ hb
    · exact Nat.le_trans hs.mem.grow ext.size
    · intro b hb hob
      exact (ext.same b (Nat.lt_of_lt_of_le hb hs.mem.grow)).trans (hs.mem.frame b hb hob)
    · intro t b hb; exact hsub t b (hs.mem.zin t b hb)
    · intro b hb
      rcases fresh b hb with h1 | h1
      · exact hs.mem.zout b h1
      · exact .inr (.inr (Nat.le_trans hs.mem.grow h1))
    · intro b hb; exact hs.mem.zb b hb
    · intro g cs hg
      obtain ⟨h1, h2⟩ := hs.mem.globs g cs hg
      exact ⟨hsub _ _ h1, fun j v hv => (cell_heap (le.same _ _ h1) _).trans (h2 j v hv)⟩
    · intro i L hi; exact pre_get _ (hs.mem.pre i L hi)
    · exact hs.mem.sys.trans ext.sys
    · obtain ⟨u, hu, hru⟩ := hs.slots i x hi
      exact ⟨u, hu, hru.on le th'⟩
  rcases hh with ⟨rfl, hq⟩ | ⟨rfl, hq⟩
  · obtain ⟨h1, h2, h3⟩ := hk y o' n' hq
    obtain ⟨m1, m2⟩ := main h1 h2
    exact ⟨v, _, _, _, _, .inl ⟨rfl, h3⟩, rfl, m1, m2, later_app _ _, ext.t⟩
  · obtain ⟨h1, h2, h3⟩ := hkp y o' n' hq
    obtain ⟨m1, m2⟩ := main h1 h2
    exact ⟨v, _, _, _, _, .inr ⟨rfl, h3⟩, rfl, m1, m2, later_app _ _, ext.t⟩
end
end Go.AM
/- The abstract machine, 14: regions that draw their order: whatever order, the state comes out as in one. -/
namespace Go.AM
open Go
section
variable {P : Program} {ops : Array Oper} {Q : Exit → Act → World → Prop} {n : Nat} {L : Array Bool → Act → World → Prop}
/-- Whatever order is picked: each operation of the head leaves all that was there as it was. -/
def anyE (P : Program) (ops : Array Oper) (Q : Exit → Act → World → Prop) (n : Nat) (L : Array Bool → Act → World → Prop) : Nat → Array Bool → Act → World → Prop
  | 0, s, a, w => L s a w
  | f + 1, s, a, w => Region.ready .any ops s ≠ [] ∧ ∀ i ∈ Region.ready .any ops s, i < n ∧ wpOp P ops Q i (fun a' w' => Ext w w' ∧ anyE P ops Q n L f (s.setIfInBounds i true) a' w') a w
theorem anyE_out {g : Nat} (hL : ∀ s a w, L s a w → wpAny P .any ops Q g s a w) : ∀ (f : Nat) (s : Array Bool) (a : Act) (w : World), anyE P ops Q n L f s a w → wpAny P .any ops Q (f + g) s a w
  | 0, s, a, w, h => by rw [Nat.zero_add]; exact hL _ _ _ h
  | f + 1, s, a, w, h => by
    rw [show f + 1 + g = (f + g) + 1 by omega]
    exact ⟨fun h0 => absurd h0 h.1, fun i hi => wpOp_mono (fun a' w' h' => anyE_out hL f _ a' w' h'.2) (h.2 i hi).2⟩
theorem yields_ext {oi : Oper} {v : Value} {a : Act} {w w' : World} (h : YieldsIf P ops (Ext w) oi v a) (e : Ext w w') : YieldsIf P ops (Ext w') oi v a :=
  h.imp (fun ⟨h1, h2⟩ => ⟨h1, fun x hx => h2 x (e.trans hx)⟩) id
theorem anyE_first {i : Nat} {oi : Oper} {v : Value} (hi : ops[i]? = some oi) (hsel : ∀ (j : Nat) (o : Oper) cs b, ops[j]? = some o → o.op ≠ .select cs b)
    (hQ : ∀ c a w, Q (.panic c) (a.put oi.dst v) w → Q (.panic c) a w) (hlt : ∀ s, HeadInv .any ops n s → ∀ i, i < n → s.getD i true = false → ∀ j ∈ Region.ready .any ops s, j < n) (hin : i < n)
    (hdone : ∀ s a w, L s a w → ∀ j ∈ Region.ready .any ops s, n ≤ j) : ∀ (f : Nat) (s : Array Bool) (a : Act) (w : World), HeadInv .any ops n s →
      (∀ j oj, ops[j]? = some oj → j ≠ i → s.getD j true = false → (∀ e ∈ oj.after, Region.binds .any e = true → e.on ≠ i) → oi.apart ops oj = true) →
      i ∈ Region.ready .any ops s → YieldsIf P ops (Ext w) oi v a → anyE P ops Q n L f (s.setIfInBounds i true) (a.put oi.dst v) w → anyE P ops Q n L (f + 1) s a w := by
  intro f
  induction f with
  | zero =>
    intro s a w inv _ hr hy H
    refine ⟨fun h => (by rw [h] at hr; cases hr), fun j hj => ?_⟩
    have hjn : j < n := hlt s inv i hin (mem_ready.1 hr).1 j hj
    by_cases hji : j = i
    · subst hji; exact ⟨hjn, hy.wpOp hi (Ext.refl w) ⟨Ext.refl w, H⟩⟩
    · have := hdone _ _ _ H j (ready_mono hj hji)
      omega
  | succ f ih =>
    intro s a w inv hfree hr hy H
    refine ⟨fun h => (by rw [h] at hr; cases hr), fun j hj => ?_⟩
    have hjn : j < n := hlt s inv i hin (mem_ready.1 hr).1 j hj
    refine ⟨hjn, ?_⟩
    by_cases hji : j = i
    · subst hji; exact hy.wpOp hi (Ext.refl w) ⟨Ext.refl w, H⟩
    · have h1 := (H.2 j (ready_mono hj hji)).2
      obtain ⟨hjun, oj, hoj, hall⟩ := mem_ready.1 hj
      have hiun := (mem_ready.1 hr).1
      have hnot : ∀ e ∈ oj.after, Region.binds .any e = true → e.on ≠ i := fun e he hb heq => by
        have h2 := hall e he hb
        rw [heq, getD_both hiun] at h2
        cases h2
      have h2 := wpOp_putIf hoj (hfree j oj hoj hji hjun hnot) (fun cs b => hsel i oi cs b hi) (fun cs b => hsel j oj cs b hoj) hQ hy h1
      refine wpOp_mono (fun a' w' h3 => ⟨h3.2.1, ih _ a' w' (inv.set hj hjn) (fun k ok hk hki hun hno => hfree k ok hk hki ?_ hno) (ready_mono hr (Ne.symm hji)) (yields_ext h3.1 h3.2.1) ?_⟩) h2
      · by_cases hjk : j = k
        · subst hjk; exact hjun
        · rwa [getD_set_ne true hjk] at hun
      · rw [Array.setIfInBounds_comm _ _ hji]
        exact h3.2.2
def tailE (P : Program) (ops : Array Oper) (Q : Exit → Act → World → Prop) (n : Nat) (s : Array Bool) (a : Act) (w : World) : Prop :=
  Region.seqB .any ops (ops.size - n) n s = true ∧ wpList P ops Q (ops.toList.drop n) a w
end
/-- Does an operation only reckon and read? -/
def isQ : Op → Bool
  | .call { callee := .builtin .len, .. } => true
  | .call _ | .box .. | .alloc _ | .buildSlice .. | .store .. | .makeSlice .. | .panic _ | .select .. => false
  | _ => true
def okOrd (ops : Array Oper) (n : Nat) : List Nat → Array Bool → Bool
  | [], s => Region.seqB .any ops (ops.size - n) n s
  | i :: r, s => decide (i < n) && (match ops[i]? with
    | some o => if isQ o.op = true then (Region.ready .any ops s).contains i && Region.free .any ops s i else decide (Region.ready .any ops s = [i])
    | none => false) && okOrd ops n r (s.setIfInBounds i true)
def okDraw (ops : Array Oper) (n : Nat) (ord : List Nat) : Bool :=
  Region.noSelect ops && (decide (n = ops.size) || (Region.sinkB .any ops n && Region.chainB .any ops n && decide (n < ops.size))) && decide (ord.length = n) && okOrd ops n ord (Array.replicate ops.size false)
/-- A step that leaves all that was there as it was. -/
def stepG (P : Program) (E : Env) (N : Nat) (st : AS) (op : Op) (k kp : AV → AS → Prop) : Prop :=
  match op with
  | .call { callee := .value f, args, .. } => bindF (ev st E.G f) (evs st E.G args.toList) (fun g xs => CallG P E N g xs st k kp)
  | .box T x => bindE (effR P E.G st (.box T x)) k
  | .alloc T => bindE (effR P E.G st (.alloc T)) k
  | .buildSlice T n ps => bindE (effR P E.G st (.buildSlice T n ps)) k
  | .makeSlice T l c => bindE (effR P E.G st (.makeSlice T l c)) k
  | op => isQ op = true ∧ bindO (qv P E.G st op) (fun v => k v st)
def execD (P : Program) (E : Env) (N : Nat) (ds : List (Option Nat)) (kp : AV → AS → Prop) (tail : List Oper) : List Oper → AS → (AS → Prop) → Prop
  | [], st, K => exec P E N ds kp tail st K
  | o :: rest, st, K => branch (gvOf ds st o.guard) (stepG P E N st o.op (fun v st' => execD P E N ds kp tail rest (st'.put o.dst v) K) kp) (execD P E N ds kp tail rest (st.put o.dst (.r (.tuple #[]))) K)
def ordOf (ops : Array Oper) (ord : List Nat) : List Oper := ord.filterMap (ops[·]?)
section
variable {P : Program} {E : Env} {N : Nat} {st : AS} {th : List NLoc} {z : Zone} {a : Act} {w : World}
theorem stepG_sound (h : Sim E N st th z a w) (o : Oper) {k kp : AV → AS → Prop} (hk : stepG P E N st o.op k kp) (hd : ∀ i, o.dst = some i → i < N) {next : Act → World → Prop} {Q : Exit → Act → World → Prop}
    (hn : ∀ x st' th' z' a' w', k x st' → Sim E N (st'.put o.dst x) th' z' a' w' → Ext w w' → next a' w') (hp : ∀ x v st' th' z' w', kp x st' → Sim E N st' th' z' a w' → Rep w' z' th' x v → Q (.panic [{ v := v, recovered := false }]) a w') : o.wp P a w next Q := by
  obtain ⟨dst, op, ty, pos, aft, gd⟩ := o
  simp only at hk
  unfold stepG at hk
  split at hk
  · rename_i f args ats
    unfold bindF at hk
    split at hk
    · rename_i g caps xs hf hx
      obtain ⟨hok, hc⟩ := hk
      have hf' := ev_sound h hf
      generalize hv : a.eval f = fv at hf'
      cases hf' with
      | fn _ _ _ ys hl hxx =>
        have hr := (evs_sound h hx).append ⟨hl, hxx⟩
        have hcall := hc th z a w _ h hr
        unfold Oper.wp
        have hrun : (execOp a.eval ⟨dst, .call { callee := .value f, args := args, argTypes := ats }, ty, pos, aft, gd⟩).run P w = .ok (.enter g (List.map a.eval args.toList ++ ys).toArray) w := by
          simp only [execOp, resolve, hv, Deferred.ofValue, Sem.run_bind, Sem.run_pure, Result.andThen_ok, invoke]
          rw [run_callFunc hok]
          congr 2
          apply Array.ext'; simp
        rw [hrun, Oper.upon_enter]
        refine hcall.mono ?_
        rintro e w' ⟨v, x, st', th', z', hh, hm, hs, hrr, _, hext⟩
        have hext := hext.ext
        rcases hh with ⟨rfl, hk⟩ | ⟨rfl, hk⟩
        · exact hn x st' th' z' _ w' hk (hs.put hrr dst hd) hext
        · exact hp x v st' th' z' w' hk hs hrr
    · exact hk.elim
  · exact upon_of_eff (eff_box h (eff_eq _ _ _ _ _ hk)) hd (fun x st' th' z' a' w' h1 _ h2 h3 => hn x st' th' z' a' w' h1 h2 (h3 rfl))
  · exact upon_of_eff (eff_alloc h (eff_eq _ _ _ _ _ hk)) hd (fun x st' th' z' a' w' h1 _ h2 h3 => hn x st' th' z' a' w' h1 h2 (h3 rfl))
  · exact upon_of_eff (eff_buildSlice h (eff_eq _ _ _ _ _ hk)) hd (fun x st' th' z' a' w' h1 _ h2 h3 => hn x st' th' z' a' w' h1 h2 (h3 rfl))
  · exact upon_of_eff (eff_makeSlice h (eff_eq _ _ _ _ _ hk)) hd (fun x st' th' z' a' w' h1 _ h2 h3 => hn x st' th' z' a' w' h1 h2 (h3 rfl))
  · obtain ⟨_, hk⟩ := hk
    unfold bindO at hk
    split at hk
    · rename_i v hq
      obtain ⟨u, hr, hrun⟩ := qv_sound h ⟨dst, op, ty, pos, aft, gd⟩ hq
      unfold Oper.wp
      rw [hrun w SameK.refl, Oper.upon_value]
      exact hn v st th z _ w hk (h.put hr dst hd) (Ext.refl w)
    · exact hk.elim
theorem stepG_quiet {op : Op} {k kp : AV → AS → Prop} (hq : isQ op = true) (hk : stepG P E N st op k kp) : ∃ v, qv P E.G st op = some v ∧ k v st := by
  unfold stepG at hk
  split at hk
  · simp [isQ] at hq
  · simp [isQ] at hq
  · simp [isQ] at hq
  · simp [isQ] at hq
  · simp [isQ] at hq
  · obtain ⟨_, hk⟩ := hk
    unfold bindO at hk
    split at hk
    · rename_i v hv; exact ⟨v, hv, hk⟩
    · exact hk.elim
theorem execD_sound {ops : Array Oper} {kp : AV → AS → Prop} {Q : Exit → Act → World → Prop} {K : AS → Prop} {n : Nat} (hQ : ∀ c a d v w, Q (.panic c) (a.put d v) w → Q (.panic c) a w)
    (hp : ∀ x v st' th' z' a' w', kp x st' → Sim E N st' th' z' a' w' → Rep w' z' th' x v → Q (.panic [{ v := v, recovered := false }]) a' w')
    (hK : ∀ st' th' z' a' w', K st' → Sim E N st' th' z' a' w' → Q .normal a' w') (hd : ∀ o ∈ ops.toList, ∀ i, o.dst = some i → i < N)
    (h1 : Region.noSelect ops = true) (h2 : ∀ s, HeadInv .any ops n s → ∀ i, i < n → s.getD i true = false → ∀ j ∈ Region.ready .any ops s, j < n) :
    ∀ (ord : List Nat) {s : Array Bool} {st : AS} {th : List NLoc} {z : Zone} {a : Act} {w : World}, HeadInv .any ops n s → okOrd ops n ord s = true → Sim E N st th z a w → execD P E N (dsOf ops) kp (ops.toList.drop n) (ordOf ops ord) st K → anyE P ops Q n (tailE P ops Q n) ord.length s a w
  | [], s, st, th, z, a, w, inv, ho, h, hx => ⟨ho, exec_sound hp hK _ (fun o ho => hd o (List.mem_of_mem_drop ho)) h hx⟩
  | i :: rest, s, st, th, z, a, w, inv, ho, h, hx => by
    simp only [okOrd, Bool.and_eq_true, decide_eq_true_eq] at ho
    obtain ⟨⟨hin, ho1⟩, ho2⟩ := ho
    cases hi : ops[i]? with
    | none => rw [hi] at ho1; simp at ho1
    | some o =>
      simp only [ordOf, List.filterMap_cons, hi] at hx
      unfold execD at hx
      change branch _ (stepG P E N st o.op (fun v st' => execD P E N (dsOf ops) kp (ops.toList.drop n) (ordOf ops rest) (st'.put o.dst v) K) kp) (execD P E N (dsOf ops) kp (ops.toList.drop n) (ordOf ops rest) (st.put o.dst (.r (.tuple #[]))) K) at hx
      have hmem : o ∈ ops.toList := Array.mem_toList_iff.2 (Array.mem_of_getElem? hi)
      have hdo := hd o hmem
      simp only [hi] at ho1
      have ih : ∀ {s : Array Bool} {st : AS} {th : List NLoc} {z : Zone} {a : Act} {w : World}, HeadInv .any ops n s → okOrd ops n rest s = true → Sim E N st th z a w → execD P E N (dsOf ops) kp (ops.toList.drop n) (ordOf ops rest) st K → anyE P ops Q n (tailE P ops Q n) rest.length s a w :=
        execD_sound hQ hp hK hd h1 h2 rest
      have guard := guard_sound h hx
      split at ho1
      · rename_i hq
        simp only [Bool.and_eq_true] at ho1
        obtain ⟨hr, hf⟩ := ho1
        have hr' : i ∈ Region.ready .any ops s := by simpa using hr
        rcases guard with ⟨hw, hs⟩ | ⟨hw, hs⟩
        · obtain ⟨x, hqv, hs⟩ := stepG_quiet hq hs
          obtain ⟨v, hrep, hrun⟩ := qv_sound h o hqv
          exact anyE_first hi (Region.noSelect_spec h1) (fun c a w => hQ c a _ _ w) h2 hin (fun s a w hL => seqB_ready hL.1) _ s a w inv (Region.free_spec hi hf) hr' (.inl ⟨hw, fun w' e => hrun w' (e.sameK h)⟩)
            (ih (inv.set hr' hin) ho2 (h.put hrep o.dst hdo) hs)
        · exact anyE_first hi (Region.noSelect_spec h1) (fun c a w => hQ c a _ _ w) h2 hin (fun s a w hL => seqB_ready hL.1) _ s a w inv (Region.free_spec hi hf) hr' (.inr ⟨hw, rfl⟩)
            (ih (inv.set hr' hin) ho2 (h.put (.r th undef) o.dst hdo) hs)
      · simp only [decide_eq_true_eq] at ho1
        have hr' : i ∈ Region.ready .any ops s := by rw [ho1]; simp
        refine ⟨fun h0 => (by rw [h0] at hr'; cases hr'), fun j hj => ?_⟩
        rw [ho1] at hj
        obtain rfl : j = i := by simpa using hj
        refine ⟨hin, ?_⟩
        unfold wpOp
        simp only [hi]
        rcases guard with ⟨hw, hs⟩ | ⟨hw, hs⟩
        · rw [if_pos hw]
          exact .inl (stepG_sound h o hs hdo (fun x st' th' z' a' w' g1 g2 g3 => ⟨g3, ih (inv.set hr' hin) ho2 g2 g1⟩) (fun x v st' th' z' w' g1 g2 g3 => hp x v st' th' z' a w' g1 g2 g3))
        · rw [if_neg (by rw [hw]; exact Bool.false_ne_true)]
          exact ⟨Ext.refl w, ih (inv.set hr' hin) ho2 (h.put (.r th undef) o.dst hdo) hs⟩
theorem ext_drew (w : World) : Ext w w.drew := ⟨Nat.le_refl _, fun _ _ => rfl, ⟨rfl, rfl, rfl⟩⟩
theorem awp_draw {id : Nat} {ops : Array Oper} {AQ : AExit → AS → Prop} {ds : List (Option Nat)} {l l' : List Oper} (hm : P.follows .mixedOrders = true) (n : Nat) (ord : List Nat) (hB : okDraw ops n ord = true) (hd : dstOK N ops = true)
    (hds : dsOf ops = ds) (ht : ops.toList.drop n = l') (hh : ordOf ops ord = l) (h : execD P E N ds (fun x st => AQ (.pan x) st) l' l st (AQ .normal)) : AWP P E N (.region id ops true) st AQ := by
  subst hds ht hh
  intro Q hQ th z a w hs
  simp only [okDraw, Bool.and_eq_true, decide_eq_true_eq] at hB
  obtain ⟨⟨⟨b1, b2⟩, b5⟩, b6⟩ := hB
  have hle : n ≤ ops.size := by
    rcases Bool.or_eq_true _ _ ▸ b2 with b2 | b2
    · exact Nat.le_of_eq (of_decide_eq_true b2)
    · simp only [Bool.and_eq_true, decide_eq_true_eq] at b2; exact Nat.le_of_lt b2.2
  have hlt : ∀ s, HeadInv .any ops n s → ∀ i, i < n → s.getD i true = false → ∀ j ∈ Region.ready .any ops s, j < n := by
    intro s inv i hi hs j hj
    rcases Bool.or_eq_true _ _ ▸ b2 with b2 | b2
    · have := of_decide_eq_true b2
      obtain ⟨_, oj, hoj, _⟩ := mem_ready.1 hj
      rw [this]; exact (Array.getElem?_eq_some_iff.1 hoj).1
    · simp only [Bool.and_eq_true, decide_eq_true_eq] at b2
      by_cases h : j < n
      · exact h
      · exact absurd hj (tail_waits b2.1.1 b2.1.2 b2.2 inv _ i rfl hi hs j (by omega))
  let Q' : Exit → Act → World → Prop := fun e a w => match e with
    | .panic c => ∀ a' : Act, a'.defers = a.defers → Q (.panic c) a' w
    | e => Q e a w
  refine wp_mono (Q := Q') ?_ (fun e a w hq => by
    cases e
    case panic c => exact hq a rfl
    all_goals exact hq)
  have inv0 : HeadInv .any ops n (Array.replicate ops.size false) :=
    ⟨by simp, fun j oj _ hl => (by rw [getD_replicate_false] at hl; cases hl), fun t _ ht => getD_in (by simpa using ht) (getD_replicate_false _ _)⟩
  refine wp_region_any hm ?_
  have key := execD_sound (Q := Q') (K := AQ .normal) (kp := fun x st => AQ (.pan x) st) (P := P) (fun c a d v w hq a' ha => hq a' (by rw [ha]; cases d <;> rfl)) (fun x v st' th' z' a' w' g1 g2 g3 a2 ha => hQ.2.2.2 x v st' th' z' w' g1 g2.mem g3 a2 (ha.trans g2.dfs))
    (fun st' th' z' a' w' g1 g2 => hQ.1 st' th' z' a' w' g1 g2) (dstOK_spec hd) b1 hlt ord inv0 b6 (hs.ext (ext_drew w)) h
  have := anyE_out (g := ops.size - n) (fun s a w hL => by
    have := wpAny_of_seq (md := .any) (Q' := Q') (ops.toList.drop n) n s a w (fun j => by simp [List.getElem?_drop]) (by simpa using hL.1) hL.2
    simpa using this) _ _ _ _ key
  rw [b5, show n + (ops.size - n) = ops.size by omega] at this
  exact this
end
end Go.AM
/- The abstract machine, 15: small helps. -/
namespace Go.AM
open Go
/-- What is given back, with its own things. -/
def Is (res : AV) (o : List (Nat × Nd)) (n : Nat) : AV → List (Nat × Nd) → Nat → Prop := fun y o' n' => y = res ∧ o' = o ∧ n' = n
def No : AV → List (Nat × Nd) → Nat → Prop := fun _ _ _ => False
section
variable {P : Program} {E : Env} {N : Nat} {st : AS} {th : List NLoc} {z : Zone} {a : Act} {w : World}
/-- A nil slice as an own list without elements. -/
theorem emb_nil (d : Nat) (T : TypeId) (k : Nat) (h : lk st.m d = some (.r (.slice none 0 0))) : Emb E N st { m := (d, .s st.n 0 0) :: st.m, o := (st.n, .lst T k []) :: st.o, n := st.n + 1 } := by
  intro th z a w hs
  have hk := hs.know ⟨0, 0, 0, 0, true⟩ (.lst T k []) (fun hp => by cases hp) (fun _ _ _ _ _ _ hp => by cases hp) (.inl ⟨rfl, rfl⟩)
  refine ⟨_, z, hk.mem, hk.size, hk.dfs, fun i x hi => ?_⟩
  simp only [lk] at hi
  split at hi
  · rename_i e; subst e; cases hi
    obtain ⟨y, hy, hr⟩ := hs.slots d _ h
    obtain rfl := hr.r_inv
    exact ⟨_, hy, .sn _ _ 0 _ (hs.get_new _) rfl⟩
  · exact hk.slots i x hi
/-- A slot's own slices are read alone from now on. -/
theorem emb_frz (d : Nat) {x x' : AV} {st' : AS} (h : lk st.m d = some x) (hf : frz st x = some (x', st')) : Emb E N st { st' with m := (d, x') :: st'.m } := by
  intro th z a w hs
  obtain ⟨y, hy, hr⟩ := hs.slots d _ h
  obtain ⟨z', hz, hs', hr', hm, hn⟩ := frz_sound x hs hr hf
  refine ⟨th, z', hs'.mem, hs'.size, hs'.dfs, fun i u hi => ?_⟩
  simp only [lk] at hi
  split at hi
  · rename_i e; subst e; cases hi
    exact ⟨y, hy, hr'.pure th⟩
  · exact hs'.slots i u hi
/-- A value is given back whose own slices are read alone from now on. -/
theorem embS_frz {x x' y : AV} {st' : AS} {o : List (Nat × Nd)} {n : Nat} (hf : frz st x = some (x', st')) (h : EmbS E N st' x' o n y) : EmbS E N st x o n y := by
  intro th z a w v hs hr
  obtain ⟨z', hz, hs', hr', hm, hn⟩ := frz_sound x hs hr hf
  exact h th z' a w v hs' (hr'.pure th)
theorem callG_is {f : Nat} {xs ys : List AV} {res : AV} {os : List (Nat × Nd)} {m : Nat} {k kp : AV → AS → Prop} (hc : Con P E.G f ys [] 0 (Is res os m) No) (hb : borL st xs = some ys) (hp : PT res) (hp' : ∀ p ∈ os, PTNd p.2)
    (hk : k (ren (· + st.n) res) { st with o := shO st.n os ++ st.o, n := st.n + m }) : CallG P E N f xs st k kp :=
  callG_of_con hc hb (fun y o n ⟨h1, h2, h3⟩ => by subst h1 h2 h3; exact ⟨hp, hp', hk⟩) (fun _ _ _ h => h.elim)
theorem callG_r {f : Nat} {xs ys : List AV} {v : Value} {k kp : AV → AS → Prop} (hc : Con P E.G f ys [] 0 (Is (.r v) [] 0) No) (hb : borL st xs = some ys) (hk : k (.r v) st) : CallG P E N f xs st k kp :=
  callG_is hc hb (.r v) (fun p hp => by cases hp) (by simpa [ren, shO] using hk)
theorem callG_ro {f : Nat} {xs ys : List AV} {kk : Nat} {els : List (List AV)} {k kp : AV → AS → Prop} (hc : Con P E.G f ys [] 0 (Is (.ro true kk els) [] 0) No) (hb : borL st xs = some ys) (hp : ∀ e ∈ els, ∀ x ∈ e, PT x) (hk : k (.ro true kk els) st) : CallG P E N f xs st k kp :=
  callG_is hc hb (.ro kk els hp) (fun p hp => by cases hp) (by simpa [ren, shO] using hk)
end
end Go.AM
/- The abstract machine, 17: a call that is given own things: it may write them, and gives them back. -/
namespace Go.AM
open Go
def idx : List Nat → Nat → Option Nat
  | [], _ => none
  | m :: r, j => if m = j then some 0 else (idx r j).map (· + 1)
theorem idx_get : ∀ {σ : List Nat} {m i : Nat}, idx σ m = some i → σ[i]? = some m
  | [], m, i, h => by simp [idx] at h
  | k :: r, m, i, h => by
    simp only [idx] at h
    split at h
    · rename_i e; subst e; cases h; rfl
    · simp only [Option.map_eq_some_iff] at h
      obtain ⟨j, hj, rfl⟩ := h
      simpa using idx_get hj
theorem idx_none : ∀ {σ : List Nat} {m : Nat}, idx σ m = none → m ∉ σ
  | [], m, h => by simp
  | k :: r, m, h => by
    simp only [idx] at h
    split at h
    · cases h
    · rename_i e
      simp only [Option.map_eq_none_iff] at h
      simp [Ne.symm e, idx_none h]
mutual
/-- As a callee sees it that is given own things. -/
def pas (σ : List Nat) (st : AS) : AV → Option AV
  | .s n lo len => match idx σ n with
    | some i => some (.s i lo len)
    | none => bor st (.s n lo len)
  | .p n i off => match idx σ n with
    | some j => some (.p j i off)
    | none => bor st (.p n i off)
  | .r v => some (.r v)
  | .ro t k els => some (.ro t k els)
  | .re t c off => some (.re t c off)
  | .agg c => (pasL σ st c).map .agg
  | .tup c => (pasL σ st c).map .tup
  | .fn f c => (pasL σ st c).map (.fn f)
  | .ifc t x => (pas σ st x).map (.ifc t)
def pasL (σ : List Nat) (st : AS) : List AV → Option (List AV)
  | [] => some []
  | x :: r => match pas σ st x, pasL σ st r with
    | some a, some l => some (a :: l)
    | _, _ => none
end
/-- The caller's number of a callee's own thing. -/
def fw (σ : List Nat) (n : Nat) (i : Nat) : Nat := match σ[i]? with
  | some m => m
  | none => n + (i - σ.length)
def mapO (φ : Nat → Nat) (o : List (Nat × Nd)) : List (Nat × Nd) := o.map fun p => (φ p.1, renNd φ p.2)
def rmL (σ : List Nat) (o : List (Nat × Nd)) : List (Nat × Nd) := σ.foldl (fun o i => rm o i) o
theorem lk_rmL : ∀ (σ : List Nat) (o : List (Nat × Nd)) (j : Nat), lk (rmL σ o) j = if j ∈ σ then none else lk o j
  | [], o, j => by simp [rmL]
  | m :: r, o, j => by
    have := lk_rmL r (rm o m) j
    simp only [rmL, List.foldl_cons] at this ⊢
    rw [this, lk_rm]
    by_cases h1 : j ∈ r
    · simp [h1]
    · by_cases h2 : m = j
      · subst h2; simp
      · simp [h1, h2, Ne.symm h2]
theorem lk_mapO {φ : Nat → Nat} : ∀ {o : List (Nat × Nd)}, (∀ p ∈ o, ∀ q ∈ o, φ p.1 = φ q.1 → p.1 = q.1) → ∀ {j : Nat} {nd : Nd}, lk (mapO φ o) j = some nd → ∃ i x, lk o i = some x ∧ j = φ i ∧ nd = renNd φ x
  | [], _, j, nd, h => by simp [mapO, lk] at h
  | (i, x) :: r, hi, j, nd, h => by
    simp only [mapO, List.map_cons, lk] at h
    split at h
    · rename_i e; cases h; exact ⟨i, x, by simp [lk], e.symm, rfl⟩
    · rename_i e
      obtain ⟨i', x', h1, h2, h3⟩ := lk_mapO (fun p hp q hq => hi p (by simp [hp]) q (by simp [hq])) (show lk (mapO φ r) j = some nd from h)
      refine ⟨i', x', ?_, h2, h3⟩
      simp only [lk]
      rw [if_neg]
      · exact h1
      · intro e2; subst e2; exact e h2.symm
theorem lk_key {o : List (Nat × Nd)} : ∀ p ∈ o, ∃ x, lk o p.1 = some x := by
  induction o with
  | nil => intro p hp; cases hp
  | cons q r ih =>
    intro p hp
    obtain ⟨i, y⟩ := q
    by_cases h : i = p.1
    · exact ⟨y, by simp [lk, h]⟩
    · rcases List.mem_cons.1 hp with rfl | hp
      · exact (h rfl).elim
      · obtain ⟨x, hx⟩ := ih p hp; exact ⟨x, by simp [lk, h, hx]⟩
section
variable {P : Program} {E : Env} {N : Nat} {st : AS} {th : List NLoc} {z : Zone} {a : Act} {w : World}
/-- The blocks that are given. -/
def giv (st : AS) (σ : List Nat) (th : List NLoc) (b : Nat) : Prop := ∃ (i m : Nat) (nd : Nd) (L : NLoc), σ[i]? = some m ∧ lk st.o m = some nd ∧ th[m]? = some L ∧ L.ph = false ∧ L.b = b
def zg (st : AS) (σ : List Nat) (th : List NLoc) (w : World) (z : Zone) : Zone := fun t b => if t then z true b else (b < w.heap.size ∧ ¬ giv st σ th b)
theorem giv_z (h : Sim E N st th z a w) {σ : List Nat} {t : Bool} {b : Nat} (hb : z t b) : ¬ giv st σ th b := by
  rintro ⟨i, m, nd, L, h1, h2, h3, h4, rfl⟩
  obtain ⟨L', k1, _, k3⟩ := h.mem.nds m nd h2
  rw [h3] at k1; cases k1
  exact (k3 h4).2.1 t hb
theorem zg_sub (h : Sim E N st th z a w) (σ : List Nat) : ∀ t b, z t b → zg st σ th w z t b := by
  intro t b hb
  cases t
  · exact ⟨h.mem.zlt _ _ hb, giv_z h hb⟩
  · exact hb
theorem giv_other (h : Sim E N st th z a w) {σ : List Nat} {m : Nat} {nd : Nd} {L : NLoc} (hm : m ∉ σ) (h1 : lk st.o m = some nd) (h2 : th[m]? = some L) (h3 : L.ph = false) : ¬ giv st σ th L.b := by
  rintro ⟨i, m', nd', L', g1, g2, g3, g4, g5⟩
  have := h.mem.inj m' m nd' nd L' L g2 h1 g3 h2 g4 h3 g5
  subst this
  exact hm (List.mem_of_getElem? g1)
mutual
theorem pas_sound (h : Sim E N st th z a w) {σ : List Nat} (hσ : ∀ m ∈ σ, m < th.length) : ∀ (x : AV) {y : AV} {v : Value}, pas σ st x = some y → Rep w z th x v → Rep w (zg st σ th w z) (thOf th σ) y v
  | .s n lo len, y, v, hb, hr => by
    simp only [pas] at hb
    split at hb
    · rename_i i hi; cases hb
      have hg := thOf_get (th := th) hσ (idx_get hi)
      cases hr with
      | s _ _ _ _ c o L hL hp hl hc ho => exact .s _ _ _ _ c o L (by rw [hg]; exact hL) hp hl hc ho
      | sn _ _ lo L hL hp => exact .sn _ _ _ L (by rw [hg]; exact hL) hp
    · rename_i hi
      simp only [bor] at hb
      split at hb
      · rename_i T k els hn
        split at hb
        · rename_i hle; cases hb
          obtain ⟨L, h1, h2, h3⟩ := h.mem.nds n _ hn
          have := hr.seen (z' := zg st σ th w z) (t := false) h1 h2 hle (fun hp => (show L.b < w.heap.size ∧ ¬ giv st σ th L.b from ⟨(h3 hp).1, giv_other h (idx_none hi) hn h1 hp⟩)) (zg_sub h σ) (thOf th σ)
          exact this
        · cases hb
      · cases hb
  | .p n i off, y, v, hb, hr => by
    simp only [pas] at hb
    split at hb
    · rename_i j hj; cases hb
      have hg := thOf_get (th := th) hσ (idx_get hj)
      cases hr with
      | p _ _ _ _ L hL => exact .p _ _ _ _ L (by rw [hg]; exact hL)
    · rename_i hi
      simp only [bor] at hb
      split at hb
      · rename_i T c hn
        split at hb
        · rename_i hii; subst hii
          simp only [Option.map_eq_some_iff] at hb
          obtain ⟨c', hc, rfl⟩ := hb
          obtain ⟨rfl, hg⟩ := borC_spec hc
          obtain ⟨L, h1, ⟨hp, cells, fr, h2, h3, h4, h5⟩, h6⟩ := h.mem.nds n _ hn
          obtain ⟨h6, h7, h8⟩ := h6 hp
          obtain ⟨L', hL', rfl⟩ := hr.p_inv
          rw [h1] at hL'; cases hL'
          have := Rep.re_mk (w := w) (z := zg st σ th w z) (th := thOf th σ) (t := false) (c := c') (b := L.b) (o := 0) (off := off) (show L.b < w.heap.size ∧ ¬ giv st σ th L.b from ⟨h6, giv_other h (idx_none hi) hn h1 hp⟩) (fun j x hj => by
            obtain ⟨y, hy, hr⟩ := h5.get hj
            refine ⟨y, ?_, (hr.ground (hg x (List.mem_of_getElem? hj)) []).on' ⟨zg_sub h σ, fun _ _ _ => rfl⟩⟩
            rw [cell_of h2]; simpa using hy)
          simpa [h4] using this
        · cases hb
      · cases hb
  | .r u, y, v, hb, hr => by simp only [pas, Option.some.injEq] at hb; subst hb; exact (hr.ground (.inl ⟨_, rfl⟩) _).on' ⟨zg_sub h σ, fun _ _ _ => rfl⟩
  | .ro t k els, y, v, hb, hr => by simp only [pas, Option.some.injEq] at hb; subst hb; exact (hr.ground (.inr (.inl ⟨_, _, _, rfl⟩)) _).on' ⟨zg_sub h σ, fun _ _ _ => rfl⟩
  | .re t c off, y, v, hb, hr => by simp only [pas, Option.some.injEq] at hb; subst hb; exact (hr.ground (.inr (.inr ⟨_, _, _, rfl⟩)) _).on' ⟨zg_sub h σ, fun _ _ _ => rfl⟩
  | .agg c, y, v, hb, hr => by
    simp only [pas, Option.map_eq_some_iff] at hb
    obtain ⟨c', hc, rfl⟩ := hb
    obtain ⟨ys, rfl, hys⟩ := hr.agg_inv
    have := pasL_sound h hσ c hc hys
    exact .agg _ _ _ this.1 this.2
  | .tup c, y, v, hb, hr => by
    simp only [pas, Option.map_eq_some_iff] at hb
    obtain ⟨c', hc, rfl⟩ := hb
    obtain ⟨ys, rfl, hys⟩ := hr.tup_inv
    have := pasL_sound h hσ c hc hys
    exact .tup _ _ _ this.1 this.2
  | .fn f c, y, v, hb, hr => by
    simp only [pas, Option.map_eq_some_iff] at hb
    obtain ⟨c', hc, rfl⟩ := hb
    cases hr with
    | fn _ _ _ ys hl hx =>
      have := pasL_sound h hσ c hc ⟨hl, hx⟩
      exact .fn _ _ _ _ this.1 this.2
  | .ifc t x, y, v, hb, hr => by
    simp only [pas, Option.map_eq_some_iff] at hb
    obtain ⟨c', hc, rfl⟩ := hb
    cases hr with
    | ifc _ _ _ u hu => exact .ifc _ _ _ _ (pas_sound h hσ x hc hu)
theorem pasL_sound (h : Sim E N st th z a w) {σ : List Nat} (hσ : ∀ m ∈ σ, m < th.length) : ∀ (c : List AV) {d : List AV} {vs : List Value}, pasL σ st c = some d → Reps w z th c vs → Reps w (zg st σ th w z) (thOf th σ) d vs
  | [], d, vs, hb, hr => by
    simp only [pasL, Option.some.injEq] at hb; subst hb
    obtain rfl := hr.of_nil; exact .nil
  | x :: r, d, vs, hb, hr => by
    simp only [pasL] at hb
    split at hb
    · rename_i y l h1 h2; cases hb
      obtain ⟨v, vs', rfl, hv, hvs⟩ := hr.head
      exact .cons (pas_sound h hσ x h1 hv) (pasL_sound h hσ r h2 hvs)
    · cases hb
end
theorem fw_inj {σ : List Nat} {n : Nat} (hσ : ∀ m ∈ σ, m < n) (hnd : σ.Nodup) {i j : Nat} (h : fw σ n i = fw σ n j) : i = j := by
  unfold fw at h
  split at h
  · rename_i m hm
    split at h
    · rename_i m' hm'
      subst h
      obtain ⟨l1, e1⟩ := List.getElem?_eq_some_iff.1 hm
      exact (List.getElem?_inj l1 hnd).1 (hm.trans hm'.symm)
    · have := hσ m (List.mem_of_getElem? hm); omega
  · rename_i hm
    have hi : σ.length ≤ i := List.getElem?_eq_none_iff.1 hm
    split at h
    · rename_i m' hm'
      have := hσ m' (List.mem_of_getElem? hm'); omega
    · rename_i hm'
      have hj : σ.length ≤ j := List.getElem?_eq_none_iff.1 hm'
      omega
/-- A call by a contract with own things that are given. -/
theorem callT_of_con {f : Nat} {σ : List Nat} {xs ys : List AV} {oc : List (Nat × Nd)} {Q R : AV → List (Nat × Nd) → Nat → Prop} {k kp : AV → AS → Prop} (hc : Con P E.G f ys oc σ.length Q R) (hb : pasL σ st xs = some ys) (ho : okO σ st.o oc) (hall : ∀ i, i < σ.length → ∃ nd, lk oc i = some nd)
    (hlt : ∀ m ∈ σ, m < st.n) (hnd : σ.Nodup) (hbig : st.n ≤ 1000000000)
    (hk : ∀ y o n, Q y o n → PT y ∧ (∀ p ∈ o, PTNd p.2) ∧ k (ren (fw σ st.n) y) { st with o := mapO (fw σ st.n) o ++ rmL σ st.o, n := st.n + (n - σ.length) })
    (hkp : ∀ y o n, R y o n → PT y ∧ (∀ p ∈ o, PTNd p.2) ∧ kp (ren (fw σ st.n) y) { st with o := mapO (fw σ st.n) o ++ rmL σ st.o, n := st.n + (n - σ.length) }) : CallT P E N f xs st σ k kp := by
  refine ⟨hc.1, fun th z a w vs hs hr => ?_⟩
  have hσ : ∀ m ∈ σ, m < th.length := fun m hm => by rw [hs.mem.len]; exact hlt m hm
  have hm1 : Mem ⟨E.w0, E.own, E.z0, E.G, []⟩ st.o st.n th z w := ⟨hs.mem.len, hs.mem.nds, hs.mem.inj, hs.mem.zlt, hs.mem.grow, hs.mem.frame, hs.mem.zin, hs.mem.zout, hs.mem.zb, hs.mem.globs, fun i L hi => by simp at hi, hs.mem.sys⟩
  have hm2 := hm1.ren σ hlt hbig ho (fun i hi => by simp at hi) hnd
  have known : ∀ i m, σ[i]? = some m → ∃ x nd L, lk oc i = some x ∧ lk st.o m = some nd ∧ (thOf th σ)[i]? = some L ∧ th[m]? = some L := by
    intro i m hi
    obtain ⟨x, hx⟩ := hall i (List.getElem?_eq_some_iff.1 hi).1
    obtain ⟨j, hj, h2⟩ := ho _ (lk_mem hx)
    simp only at hj
    rw [hi] at hj; cases hj
    obtain ⟨L, h3, _⟩ := hs.mem.nds m _ h2
    exact ⟨x, _, L, hx, h2, by rw [thOf_get hσ hi]; exact h3, h3⟩
  have hgiv : ∀ b, giv st σ th b ↔ ∃ i nd L, lk oc i = some nd ∧ (thOf th σ)[i]? = some L ∧ L.ph = false ∧ L.b = b := by
    intro b
    constructor
    · rintro ⟨i, m, nd, L, h1, h2, h3, h4, h5⟩
      obtain ⟨x, nd', L', k1, k2, k3, k4⟩ := known i m h1
      rw [h3] at k4; cases k4
      exact ⟨i, x, L, k1, k3, h4, h5⟩
    · rintro ⟨i, nd, L, h1, h2, h3, h4⟩
      have hi : i < σ.length := by have := (List.getElem?_eq_some_iff.1 h2).1; simpa [thOf] using this
      obtain ⟨x, nd', L', k1, k2, k3, k4⟩ := known i σ[i] (by simp [hi])
      rw [h2] at k3; cases k3
      exact ⟨i, σ[i], nd', L, by simp [hi], k2, k4, h3, h4⟩
  have lez : Le w z w (zg st σ th w z) := ⟨zg_sub hs σ, fun _ _ _ => rfl⟩
  have hzlt : ∀ t b, zg st σ th w z t b → b < w.heap.size := by
    intro t b h
    cases t
    · exact h.1
    · exact hs.mem.zlt _ _ h
  have hmem0 : Mem ⟨w, giv st σ th, zg st σ th w z, E.G, thOf th σ⟩ oc σ.length (thOf th σ) (zg st σ th w z) w := by
    refine ⟨hm2.len, fun i nd hi => ?_, hm2.inj, hzlt, Nat.le_refl _, fun _ _ _ => rfl, fun _ _ h => h, fun b h => .inl h, fun b h => h, fun g cs hg => ?_, fun i L hi => hi, Sys.refl w⟩
    · obtain ⟨L, h1, h2, h3⟩ := hm2.nds i nd hi
      have hown : L.ph = false → giv st σ th L.b := fun hp => (hgiv _).2 ⟨i, nd, L, hi, h1, hp, rfl⟩
      refine ⟨L, h1, by simpa using h2.on lez (fun _ => rfl) [], fun hp => ⟨(h3 hp).1, fun t ht => ?_, .inl (hown hp)⟩⟩
      cases t
      · exact ht.2 (hown hp)
      · exact (h3 hp).2.1 true ht
    · obtain ⟨h1, h2⟩ := hs.mem.globs g cs hg
      exact ⟨h1, h2⟩
  refine (hc.2 w (thOf th σ) (zg st σ th w z) (giv st σ th) vs hgiv hmem0 (pasL_sound hs hσ xs hb hr)).mono ?_
  rintro e w' ⟨v, y, o', n', th', z', hh, hm, hv⟩
  have hn' : σ.length ≤ n' := by
    by_cases h0 : σ.length = 0
    · omega
    · have hi : σ.length - 1 < σ.length := by omega
      obtain ⟨x, nd', L', k1, k2, k3, k4⟩ := known (σ.length - 1) σ[σ.length - 1] (by simp [hi])
      have := (List.getElem?_eq_some_iff.1 (hm.pre _ _ k3)).1
      rw [hm.len] at this; omega
  have same : ∀ b, b < w.heap.size → ¬ giv st σ th b → w'.heap[b]? = w.heap[b]? := fun b hb hg => hm.frame b hb hg
  have extT : ExtT th σ w w' := ⟨hm.grow, fun b hb hne => same b hb (by
    rintro ⟨i, m, nd, L, h1, h2, h3, h4, h5⟩
    exact hne m (List.mem_of_getElem? h1) L h3 h4 h5), hm.sys⟩
  have main : PT y → (∀ p ∈ o', PTNd p.2) → Sim E N { st with o := mapO (fw σ st.n) o' ++ rmL σ st.o, n := st.n + (n' - σ.length) } (th ++ th'.drop σ.length) (shZ z z') a w' ∧ Rep w' (shZ z z') (th ++ th'.drop σ.length) (ren (fw σ st.n) y) v := by
    intro hy hop
    have hsub : ∀ t b, z t b → shZ z z' t b := by
      intro t b hb
      cases t
      · exact hb
      · exact hm.zin true b (show zg st σ th w z true b from hb)
    have le : Le w z w' (shZ z z') := ⟨hsub, fun t b hb => same b (hs.mem.zlt t b hb) (giv_z hs hb)⟩
    have hfw : ∀ (i : Nat) L, th'[i]? = some L → (th ++ th'.drop σ.length)[fw σ st.n i]? = some L := by
      intro i L hi
      unfold fw
      split
      · rename_i m hmm
        obtain ⟨x, nd', L', k1, k2, k3, k4⟩ := known i m hmm
        have := hm.pre i L' k3
        rw [hi] at this; cases this
        exact pre_get _ k4
      · rename_i hmm
        have hi' : σ.length ≤ i := List.getElem?_eq_none_iff.1 hmm
        rw [List.getElem?_append_right (by rw [hs.mem.len]; omega), hs.mem.len, List.getElem?_drop, show σ.length + (st.n + (i - σ.length) - st.n) = i by omega]; exact hi
    have hz1 : ∀ b, z' true b → shZ z z' true b := fun b hb => hb
    have fresh : ∀ b, z' true b → z true b ∨ giv st σ th b ∨ w.heap.size ≤ b := fun b hb => hm.zout b hb
    have givE : ∀ b, giv st σ th b → (E.own b ∨ E.w0.heap.size ≤ b) ∧ b < w.heap.size ∧ ∀ t, ¬ z t b := by
      rintro b ⟨i, m, nd, L, h1, h2, h3, h4, rfl⟩
      obtain ⟨L', k1, _, k3⟩ := hs.mem.nds m nd h2
      rw [h3] at k1; cases k1
      exact ⟨(k3 h4).2.2, (k3 h4).1, (k3 h4).2.1⟩
    have keys : ∀ p ∈ o', ∀ q ∈ o', fw σ st.n p.1 = fw σ st.n q.1 → p.1 = q.1 := fun p _ q _ h => fw_inj hlt hnd h
    have look : ∀ j nd, lk (mapO (fw σ st.n) o' ++ rmL σ st.o) j = some nd → (∃ i x, lk o' i = some x ∧ j = fw σ st.n i ∧ nd = renNd (fw σ st.n) x) ∨ (j ∉ σ ∧ lk st.o j = some nd) := by
      intro j nd hj
      rw [lk_append] at hj
      cases hq : lk (mapO (fw σ st.n) o') j with
      | some x => rw [hq] at hj; cases hj; exact .inl (lk_mapO keys hq)
      | none =>
        rw [hq] at hj
        simp only [lk_rmL] at hj
        split at hj
        · cases hj
        · exact .inr ⟨by assumption, hj⟩
    have newn : ∀ i x, lk o' i = some x → ∃ L, th'[i]? = some L ∧ NdAt w' z' th' L x ∧ (L.ph = false → L.b < w'.heap.size ∧ (∀ t, ¬ z' t L.b) ∧ (giv st σ th L.b ∨ w.heap.size ≤ L.b)) := fun i x hi => hm.nds i x hi
    have oldn : ∀ j nd, j ∉ σ → lk st.o j = some nd → ∃ L, th[j]? = some L ∧ NdAt w z th L nd ∧ (L.ph = false → L.b < w.heap.size ∧ (∀ t, ¬ z t L.b) ∧ (E.own L.b ∨ E.w0.heap.size ≤ L.b) ∧ ¬ giv st σ th L.b) := by
      intro j nd hj hnd'
      obtain ⟨L, h1, h2, h3⟩ := hs.mem.nds j nd hnd'
      exact ⟨L, h1, h2, fun hp => ⟨(h3 hp).1, (h3 hp).2.1, (h3 hp).2.2, giv_other hs hj hnd' h1 hp⟩⟩
    refine ⟨⟨⟨?_, ?_, ?_, ?_, ?_, ?_, ?_, ?_, ?_, ?_, ?_, ?_⟩, hs.size, hs.dfs, fun i x hi => ?_⟩, (hv.back hz1 hy).ren hfw⟩
    · simp [hs.mem.len, hm.len]
    · intro j nd hj
      rcases look j nd hj with ⟨i, x, hx, rfl, rfl⟩ | ⟨hj1, hj2⟩
      · obtain ⟨L, h1, h2, h3⟩ := newn i x hx
        refine ⟨L, hfw _ _ h1, (h2.back hz1 (hop _ (lk_mem hx))).ren hfw, fun hp => ?_⟩
        obtain ⟨h3, h4, h5⟩ := h3 hp
        refine ⟨h3, fun t ht => ?_, ?_⟩
        · cases t
          · have hlt' := hs.mem.zlt _ _ (show z false L.b from ht)
            rcases h5 with h5 | h5
            · exact giv_z hs (show z false L.b from ht) h5
            · omega
          · exact h4 true ht
        · rcases h5 with h5 | h5
          · exact (givE _ h5).1
          · exact .inr (Nat.le_trans hs.mem.grow h5)
      · obtain ⟨L, h1, h2, h3⟩ := oldn j nd hj1 hj2
        refine ⟨L, pre_get _ h1, h2.on le (fun hp => same _ (h3 hp).1 (h3 hp).2.2.2) _, fun hp => ?_⟩
        obtain ⟨h3, h4, h5, h6⟩ := h3 hp
        refine ⟨Nat.lt_of_lt_of_le h3 hm.grow, fun t ht => ?_, h5⟩
        cases t
        · exact h4 false ht
        · rcases fresh _ ht with h7 | h7 | h7
          · exact h4 true h7
          · exact h6 h7
          · omega
    · intro i j x y L M hi hj hL hM e1 e2 hbb
      rcases look i x hi with ⟨i1, x1, hx1, rfl, rfl⟩ | ⟨hi1, hi2⟩ <;> rcases look j y hj with ⟨j1, y1, hy1, rfl, rfl⟩ | ⟨hj1, hj2⟩
      · obtain ⟨L1, q1, _, q2⟩ := newn _ _ hx1
        obtain ⟨L2, q3, _, q4⟩ := newn _ _ hy1
        have r1 := hfw _ _ q1
        rw [hL] at r1; cases r1
        have r2 := hfw _ _ q3
        rw [hM] at r2; cases r2
        have := hm.inj i1 j1 x1 y1 L M hx1 hy1 q1 q3 e1 e2 hbb
        rw [this]
      · obtain ⟨L1, q1, _, q2⟩ := newn _ _ hx1
        obtain ⟨L2, q3, _, q4⟩ := oldn _ _ hj1 hj2
        have r1 := hfw _ _ q1
        rw [hL] at r1; cases r1
        have r2 := pre_get (th'.drop σ.length) q3
        rw [hM] at r2; cases r2
        rcases (q2 e1).2.2 with h5 | h5
        · rw [hbb] at h5; exact ((q4 e2).2.2.2 h5).elim
        · have := (q4 e2).1; omega
      · obtain ⟨L1, q1, _, q2⟩ := newn _ _ hy1
        obtain ⟨L2, q3, _, q4⟩ := oldn _ _ hi1 hi2
        have r1 := hfw _ _ q1
        rw [hM] at r1; cases r1
        have r2 := pre_get (th'.drop σ.length) q3
        rw [hL] at r2; cases r2
        rcases (q2 e2).2.2 with h5 | h5
        · rw [← hbb] at h5; exact ((q4 e1).2.2.2 h5).elim
        · have := (q4 e1).1; omega
      · obtain ⟨L1, q1, _, _⟩ := oldn _ _ hi1 hi2
        obtain ⟨L2, q3, _, _⟩ := oldn _ _ hj1 hj2
        have r1 := pre_get (th'.drop σ.length) q1
        rw [hL] at r1; cases r1
        have r2 := pre_get (th'.drop σ.length) q3
        rw [hM] at r2; cases r2
        exact hs.mem.inj i j x y L M hi2 hj2 q1 q3 e1 e2 hbb
    · intro t b hb
      cases t
      · exact Nat.lt_of_lt_of_le (hs.mem.zlt _ _ hb) hm.grow
      · exact hm.zlt _ _ hb
    · exact Nat.le_trans hs.mem.grow hm.grow
    · intro b hb hob
      refine (same b (Nat.lt_of_lt_of_le hb hs.mem.grow) (fun hg => ?_)).trans (hs.mem.frame b hb hob)
      rcases (givE b hg).1 with h1 | h1
      · exact hob h1
      · omega
    · intro t b hb; exact hsub t b (hs.mem.zin t b hb)
    · intro b hb
      rcases fresh b hb with h1 | h1 | h1
      · exact hs.mem.zout b h1
      · exact .inr (givE b h1).1
      · exact .inr (.inr (Nat.le_trans hs.mem.grow h1))
    · intro b hb; exact hs.mem.zb b hb
    · intro g cs hg
      obtain ⟨h1, h2⟩ := hs.mem.globs g cs hg
      exact ⟨hsub _ _ h1, fun j v hv => (cell_heap (le.same _ _ h1) _).trans (h2 j v hv)⟩
    · intro i L hi; exact pre_get _ (hs.mem.pre i L hi)
    · exact hs.mem.sys.trans hm.sys
    · obtain ⟨u, hu, hru⟩ := hs.slots i x hi
      exact ⟨u, hu, hru.on le _⟩
  rcases hh with ⟨rfl, hq⟩ | ⟨rfl, hq⟩
  · obtain ⟨h1, h2, h3⟩ := hk y o' n' hq
    obtain ⟨m1, m2⟩ := main h1 h2
    exact ⟨v, _, _, _, _, .inl ⟨rfl, h3⟩, rfl, m1, m2, later_app _ _, extT⟩
  · obtain ⟨h1, h2, h3⟩ := hkp y o' n' hq
    obtain ⟨m1, m2⟩ := main h1 h2
    exact ⟨v, _, _, _, _, .inr ⟨rfl, h3⟩, rfl, m1, m2, later_app _ _, extT⟩
end
end Go.AM
/- The abstract machine, 16: the same steps, as data that a rewriter can run: no continuation stands in sight. -/
namespace Go.AM
open Go
/-- What a step comes to. -/
inductive SR where
  | val (v : AV) (st : AS)
  | cond (c : Prop) (v : AV) (st : AS)
  | call (g : Nat) (xs : List AV)
  | pan (x : AV)
  | bad
def ofO (st : AS) : Option AV → SR
  | some v => .val v st
  | none => .bad
def ofE : Option (Prop × AV × AS) → SR
  | some (c, v, s) => .cond c v s
  | none => .bad
def ofF : Option AV → Option (List AV) → SR
  | some (.fn g caps), some xs => .call g (xs ++ caps)
  | _, _ => .bad
def ofP : Option AV → SR
  | some (.ifc t v) => .pan (.ifc t v)
  | _ => .bad
def callSR (P : Program) (G : List (Nat × List Value)) (st : AS) : Call → SR
  | { callee := .value f, args, .. } => ofF (ev st G f) (evs st G args.toList)
  | { callee := .builtin .append, args, argTypes } => ofE (effR P G st (.call { callee := .builtin .append, args := args, argTypes := argTypes }))
  | { callee := .builtin .clear, args, argTypes } => ofE (effR P G st (.call { callee := .builtin .clear, args := args, argTypes := argTypes }))
  | c => ofO st (qv P G st (.call c))
def stepR (P : Program) (G : List (Nat × List Value)) (st : AS) : Op → SR
  | .call c => callSR P G st c
  | .box T x => ofE (effR P G st (.box T x))
  | .alloc T => ofE (effR P G st (.alloc T))
  | .buildSlice T n ps => ofE (effR P G st (.buildSlice T n ps))
  | .store T x v => ofE (effR P G st (.store T x v))
  | .makeSlice T l c => ofE (effR P G st (.makeSlice T l c))
  | .panic x => ofP (ev st G x)
  | op => ofO st (qv P G st op)
def runA (P : Program) (E : Env) (N : Nat) (r : SR) (st : AS) (k kp : AV → AS → Prop) : Prop := match r with
  | .val v st' => k v st'
  | .cond c v st' => c ∧ k v st'
  | .call g xs => CallV P E N g xs st k kp
  | .pan x => kp x st
  | .bad => False
def runG (P : Program) (E : Env) (N : Nat) (r : SR) (st : AS) (k kp : AV → AS → Prop) : Prop := match r with
  | .val v st' => k v st'
  | .cond c v st' => c ∧ k v st'
  | .call g xs => CallG P E N g xs st k kp
  | .pan x => kp x st
  | .bad => False
section
variable {P : Program} {E : Env} {N : Nat} {st : AS} {k kp : AV → AS → Prop}
theorem stepR_call_else {G : List (Nat × List Value)} {c : Call} (h1 : ∀ f, c.callee ≠ .value f) (h2 : c.callee ≠ .builtin .append) (h3 : c.callee ≠ .builtin .clear) : stepR P G st (.call c) = ofO st (qv P G st (.call c)) := by
  obtain ⟨callee, args, ats⟩ := c
  cases callee with
  | value f => exact absurd rfl (h1 f)
  | builtin b => cases b <;> first | rfl | exact absurd rfl h2 | exact absurd rfl h3
  | invoke a b => rfl
theorem runA_ofO {x : Option AV} (h : runA P E N (ofO st x) st k kp) : bindO x (fun v => k v st) := by
  cases x with
  | none => exact h.elim
  | some v => exact h
theorem runA_ofE {x : Option (Prop × AV × AS)} (h : runA P E N (ofE x) st k kp) : bindE x k := by
  cases x with
  | none => exact h.elim
  | some v => exact h
theorem stepA_of (op : Op) (h : runA P E N (stepR P E.G st op) st k kp) : stepA P E N st op k kp := by
  cases op
  case call c =>
    obtain ⟨callee, args, ats⟩ := c
    cases callee with
    | value f =>
      change runA P E N (ofF (ev st E.G f) (evs st E.G args.toList)) st k kp at h
      change bindF (ev st E.G f) (evs st E.G args.toList) (fun g xs => CallV P E N g xs st k kp)
      revert h
      generalize ev st E.G f = a
      generalize evs st E.G args.toList = b
      intro h
      unfold ofF at h
      split at h
      · exact h
      · exact h.elim
    | builtin b =>
      cases b
      case append => exact runA_ofE h
      case clear => exact runA_ofE h
      all_goals (rw [stepR_call_else (by simp) (by simp) (by simp)] at h; exact runA_ofO h)
    | invoke a b => rw [stepR_call_else (by simp) (by simp) (by simp)] at h; exact runA_ofO h
  case panic x =>
    change runA P E N (ofP (ev st E.G x)) st k kp at h
    change bindO (ev st E.G x) _
    revert h
    generalize ev st E.G x = a
    intro h
    unfold ofP at h
    split at h
    · exact h
    · exact h.elim
  case box => exact runA_ofE h
  case alloc => exact runA_ofE h
  case buildSlice => exact runA_ofE h
  case store => exact runA_ofE h
  case makeSlice => exact runA_ofE h
  all_goals first | exact (show False from h).elim | exact runA_ofO (st := st) (x := qv P E.G st _) h
/-- May a step stand where the order is drawn? -/
def isG : Op → Bool
  | .call { callee := .value _, .. } => true
  | .box .. | .alloc _ | .buildSlice .. | .makeSlice .. => true
  | op => isQ op
theorem runG_ofO {x : Option AV} (h : runG P E N (ofO st x) st k kp) : bindO x (fun v => k v st) := by
  cases x with
  | none => exact h.elim
  | some v => exact h
theorem runG_ofE {x : Option (Prop × AV × AS)} (h : runG P E N (ofE x) st k kp) : bindE x k := by
  cases x with
  | none => exact h.elim
  | some v => exact h
theorem stepG_of (op : Op) (hg : isG op = true) (h : runG P E N (stepR P E.G st op) st k kp) : stepG P E N st op k kp := by
  cases op
  case call c =>
    obtain ⟨callee, args, ats⟩ := c
    cases callee with
    | value f =>
      change runG P E N (ofF (ev st E.G f) (evs st E.G args.toList)) st k kp at h
      change bindF (ev st E.G f) (evs st E.G args.toList) (fun g xs => CallG P E N g xs st k kp)
      revert h
      generalize ev st E.G f = a
      generalize evs st E.G args.toList = b
      intro h
      unfold ofF at h
      split at h
      · exact h
      · exact h.elim
    | builtin b =>
      cases b
      case len => rw [stepR_call_else (by simp) (by simp) (by simp)] at h; exact ⟨rfl, runG_ofO h⟩
      all_goals cases hg
    | invoke a b => cases hg
  case panic x => cases hg
  case store => cases hg
  case select => cases hg
  case box => exact runG_ofE h
  case alloc => exact runG_ofE h
  case buildSlice => exact runG_ofE h
  case makeSlice => exact runG_ofE h
  all_goals first | exact (show False from h).elim | exact ⟨rfl, runG_ofO (st := st) (x := qv P E.G st _) h⟩
theorem runA_mono {r : SR} {k' kp' : AV → AS → Prop} (h : runA P E N r st k kp) (hk : ∀ v s, k v s → k' v s) (hp : ∀ v s, kp v s → kp' v s) : runA P E N r st k' kp' := by
  cases r with
  | val v s => exact hk _ _ h
  | cond c v s => exact ⟨h.1, hk _ _ h.2⟩
  | call g xs => obtain ⟨ts, h⟩ := h; exact ⟨ts, h.mono hk hp⟩
  | pan x => exact hp _ _ h
  | bad => exact h
theorem runG_mono {r : SR} {k' kp' : AV → AS → Prop} (h : runG P E N r st k kp) (hk : ∀ v s, k v s → k' v s) (hp : ∀ v s, kp v s → kp' v s) : runG P E N r st k' kp' := by
  cases r with
  | val v s => exact hk _ _ h
  | cond c v s => exact ⟨h.1, hk _ _ h.2⟩
  | call g xs => exact CallT.mono h hk hp
  | pan x => exact hp _ _ h
  | bad => exact h
end
/-- Operations, one behind the other. -/
def ex (P : Program) (E : Env) (N : Nat) (ds : List (Option Nat)) (kp : AV → AS → Prop) : List Oper → AS → (AS → Prop) → Prop
  | [], st, K => K st
  | o :: rest, st, K => match gvOf ds st o.guard with
    | .yes => runA P E N (stepR P E.G st o.op) st (fun v st' => ex P E N ds kp rest (st'.put o.dst v) K) kp
    | .no => ex P E N ds kp rest (st.put o.dst (.r (.tuple #[]))) K
    | .bad => False
    | .ask b w => (b = w → runA P E N (stepR P E.G st o.op) st (fun v st' => ex P E N ds kp rest (st'.put o.dst v) K) kp) ∧ (b = !w → ex P E N ds kp rest (st.put o.dst (.r (.tuple #[]))) K)
def exD (P : Program) (E : Env) (N : Nat) (ds : List (Option Nat)) (kp : AV → AS → Prop) (tail : List Oper) : List Oper → AS → (AS → Prop) → Prop
  | [], st, K => ex P E N ds kp tail st K
  | o :: rest, st, K => match gvOf ds st o.guard with
    | .yes => runG P E N (stepR P E.G st o.op) st (fun v st' => exD P E N ds kp tail rest (st'.put o.dst v) K) kp
    | .no => exD P E N ds kp tail rest (st.put o.dst (.r (.tuple #[]))) K
    | .bad => False
    | .ask b w => (b = w → runG P E N (stepR P E.G st o.op) st (fun v st' => exD P E N ds kp tail rest (st'.put o.dst v) K) kp) ∧ (b = !w → exD P E N ds kp tail rest (st.put o.dst (.r (.tuple #[]))) K)
section
variable {P : Program} {E : Env} {N : Nat} {ds : List (Option Nat)} {kp : AV → AS → Prop} {K : AS → Prop}
theorem exec_of : ∀ {l : List Oper} {st : AS}, ex P E N ds kp l st K → exec P E N ds kp l st K
  | [], st, h => h
  | o :: rest, st, h => by
    unfold ex at h
    unfold exec
    have go : runA P E N (stepR P E.G st o.op) st (fun v st' => ex P E N ds kp rest (st'.put o.dst v) K) kp → stepA P E N st o.op (fun v st' => exec P E N ds kp rest (st'.put o.dst v) K) kp :=
      fun h => stepA_of _ (runA_mono h (fun _ _ h => exec_of h) (fun _ _ h => h))
    split at h
    · rename_i e; rw [e]; exact go h
    · rename_i e; rw [e]; exact exec_of h
    · exact h.elim
    · rename_i e; rw [e]; exact ⟨fun e => go (h.1 e), fun e => exec_of (h.2 e)⟩
theorem execD_of {tail : List Oper} : ∀ {l : List Oper} {st : AS}, (l.all fun o => isG o.op) = true → exD P E N ds kp tail l st K → execD P E N ds kp tail l st K
  | [], st, _, h => exec_of h
  | o :: rest, st, hg, h => by
    simp only [List.all_cons, Bool.and_eq_true] at hg
    unfold exD at h
    unfold execD
    have go : runG P E N (stepR P E.G st o.op) st (fun v st' => exD P E N ds kp tail rest (st'.put o.dst v) K) kp → stepG P E N st o.op (fun v st' => execD P E N ds kp tail rest (st'.put o.dst v) K) kp :=
      fun h => stepG_of _ hg.1 (runG_mono h (fun _ _ h => execD_of hg.2 h) (fun _ _ h => h))
    split at h
    · rename_i e; rw [e]; exact go h
    · rename_i e; rw [e]; exact execD_of hg.2 h
    · exact h.elim
    · rename_i e; rw [e]; exact ⟨fun e => go (h.1 e), fun e => execD_of hg.2 (h.2 e)⟩
end
section
variable (P : Program) (E : Env) (N : Nat) (ds : List (Option Nat)) (kp : AV → AS → Prop) (tail rest : List Oper) (st : AS) (K : AS → Prop)
def goG (g : GV) (d : Option Nat) (op : Op) : Prop := match g with
  | .yes => runA P E N (stepR P E.G st op) st (fun v st' => ex P E N ds kp rest (st'.put d v) K) kp
  | .no => ex P E N ds kp rest (st.put d (.r (.tuple #[]))) K
  | .bad => False
  | .ask b w => (b = w → runA P E N (stepR P E.G st op) st (fun v st' => ex P E N ds kp rest (st'.put d v) K) kp) ∧ (b = !w → ex P E N ds kp rest (st.put d (.r (.tuple #[]))) K)
def goR (r : SR) (d : Option Nat) : Prop := runA P E N r st (fun v st' => ex P E N ds kp rest (st'.put d v) K) kp
def callR (g : Nat) (xs : List AV) (d : Option Nat) : Prop := CallV P E N g xs st (fun v st' => ex P E N ds kp rest (st'.put d v) K) kp
def goGD (g : GV) (d : Option Nat) (op : Op) : Prop := match g with
  | .yes => runG P E N (stepR P E.G st op) st (fun v st' => exD P E N ds kp tail rest (st'.put d v) K) kp
  | .no => exD P E N ds kp tail rest (st.put d (.r (.tuple #[]))) K
  | .bad => False
  | .ask b w => (b = w → runG P E N (stepR P E.G st op) st (fun v st' => exD P E N ds kp tail rest (st'.put d v) K) kp) ∧ (b = !w → exD P E N ds kp tail rest (st.put d (.r (.tuple #[]))) K)
def goRD (r : SR) (d : Option Nat) : Prop := runG P E N r st (fun v st' => exD P E N ds kp tail rest (st'.put d v) K) kp
def callD (g : Nat) (xs : List AV) (d : Option Nat) : Prop := CallG P E N g xs st (fun v st' => exD P E N ds kp tail rest (st'.put d v) K) kp
@[go_sem] theorem ex_nil : ex P E N ds kp [] st K = K st := rfl
@[go_sem] theorem ex_cons (d : Option Nat) (op : Op) (t : TypeId) (p : String) (af : Array Edge) (g : Option (Nat × Bool)) : ex P E N ds kp (⟨d, op, t, p, af, g⟩ :: rest) st K = goG P E N ds kp rest st K (gvOf ds st g) d op := rfl
@[go_sem] theorem goG_yes (d : Option Nat) (op : Op) : goG P E N ds kp rest st K .yes d op = goR P E N ds kp rest st K (stepR P E.G st op) d := rfl
@[go_sem] theorem goG_no (d : Option Nat) (op : Op) : goG P E N ds kp rest st K .no d op = ex P E N ds kp rest (st.put d (.r (.tuple #[]))) K := rfl
@[go_sem] theorem goG_tt (d : Option Nat) (op : Op) : goG P E N ds kp rest st K (.ask true true) d op = goR P E N ds kp rest st K (stepR P E.G st op) d := by simp [goG, goR]
@[go_sem] theorem goG_ff (d : Option Nat) (op : Op) : goG P E N ds kp rest st K (.ask false false) d op = goR P E N ds kp rest st K (stepR P E.G st op) d := by simp [goG, goR]
@[go_sem] theorem goG_tf (d : Option Nat) (op : Op) : goG P E N ds kp rest st K (.ask true false) d op = ex P E N ds kp rest (st.put d (.r (.tuple #[]))) K := by simp [goG]
@[go_sem] theorem goG_ft (d : Option Nat) (op : Op) : goG P E N ds kp rest st K (.ask false true) d op = ex P E N ds kp rest (st.put d (.r (.tuple #[]))) K := by simp [goG]
@[go_sem] theorem goR_val (d : Option Nat) (v : AV) (s : AS) : goR P E N ds kp rest st K (.val v s) d = ex P E N ds kp rest (s.put d v) K := rfl
@[go_sem] theorem goR_cond (d : Option Nat) (c : Prop) (v : AV) (s : AS) : goR P E N ds kp rest st K (.cond c v s) d = (c ∧ ex P E N ds kp rest (s.put d v) K) := rfl
@[go_sem] theorem goR_call (d : Option Nat) (g : Nat) (xs : List AV) : goR P E N ds kp rest st K (.call g xs) d = callR P E N ds kp rest st K g xs d := rfl
@[go_sem] theorem goR_pan (d : Option Nat) (x : AV) : goR P E N ds kp rest st K (.pan x) d = kp x st := rfl
@[go_sem] theorem exD_nil : exD P E N ds kp tail [] st K = ex P E N ds kp tail st K := rfl
@[go_sem] theorem exD_cons (d : Option Nat) (op : Op) (t : TypeId) (p : String) (af : Array Edge) (g : Option (Nat × Bool)) : exD P E N ds kp tail (⟨d, op, t, p, af, g⟩ :: rest) st K = goGD P E N ds kp tail rest st K (gvOf ds st g) d op := rfl
@[go_sem] theorem goGD_yes (d : Option Nat) (op : Op) : goGD P E N ds kp tail rest st K .yes d op = goRD P E N ds kp tail rest st K (stepR P E.G st op) d := rfl
@[go_sem] theorem goGD_no (d : Option Nat) (op : Op) : goGD P E N ds kp tail rest st K .no d op = exD P E N ds kp tail rest (st.put d (.r (.tuple #[]))) K := rfl
@[go_sem] theorem goGD_tt (d : Option Nat) (op : Op) : goGD P E N ds kp tail rest st K (.ask true true) d op = goRD P E N ds kp tail rest st K (stepR P E.G st op) d := by simp [goGD, goRD]
@[go_sem] theorem goGD_ff (d : Option Nat) (op : Op) : goGD P E N ds kp tail rest st K (.ask false false) d op = goRD P E N ds kp tail rest st K (stepR P E.G st op) d := by simp [goGD, goRD]
@[go_sem] theorem goGD_tf (d : Option Nat) (op : Op) : goGD P E N ds kp tail rest st K (.ask true false) d op = exD P E N ds kp tail rest (st.put d (.r (.tuple #[]))) K := by simp [goGD]
@[go_sem] theorem goGD_ft (d : Option Nat) (op : Op) : goGD P E N ds kp tail rest st K (.ask false true) d op = exD P E N ds kp tail rest (st.put d (.r (.tuple #[]))) K := by simp [goGD]
@[go_sem] theorem goRD_val (d : Option Nat) (v : AV) (s : AS) : goRD P E N ds kp tail rest st K (.val v s) d = exD P E N ds kp tail rest (s.put d v) K := rfl
@[go_sem] theorem goRD_cond (d : Option Nat) (c : Prop) (v : AV) (s : AS) : goRD P E N ds kp tail rest st K (.cond c v s) d = (c ∧ exD P E N ds kp tail rest (s.put d v) K) := rfl
@[go_sem] theorem goRD_call (d : Option Nat) (g : Nat) (xs : List AV) : goRD P E N ds kp tail rest st K (.call g xs) d = callD P E N ds kp tail rest st K g xs d := rfl
end
section
variable (P : Program) (G : List (Nat × List Value)) (st : AS)
@[go_sem] theorem step_move (x : Operand) : stepR P G st (.move x) = ofO st (ev st G x) := rfl
@[go_sem] theorem step_assign (x : Operand) : stepR P G st (.assign x) = ofO st (ev st G x) := rfl
def pickO : Option AV → Option AV → Option AV → Option AV
  | some (.r (.bool c)), some a, some b => some (pickAV c a b)
  | _, _, _ => none
@[go_sem] theorem step_pick (c a b : Operand) : stepR P G st (.pick c a b) = ofO st (pickO (ev st G c) (ev st G a) (ev st G b)) := rfl
def loadO : Option TY → Option AV → Option AV
  | some y, some x => match cellsAt st x with
    | some (c, off) => pickC y c off
    | none => none
  | _, _ => none
@[go_sem] theorem step_load (T : TypeId) (x : Operand) : stepR P G st (.load T x) = ofO st (loadO st (tyOf P T) (ev st G x)) := rfl
def nilO : Option AV → Option AV
  | some (.re t c off) => some (.re t c off)
  | some (.p n i off) => some (.p n i off)
  | some (.fn f c) => some (.fn f c)
  | _ => none
@[go_sem] theorem step_nilCheck (x : Operand) : stepR P G st (.nilCheck x) = ofO st (nilO (ev st G x)) := rfl
def binO (op : BinOp) (T : TypeId) (nl : Bool) (t : Option TY) (a b : Option AV) : Option AV := match nl with
  | true => (match t, a with
    | some ty, some (.r v) => ifcA op ty v
    | _, _ => none)
  | false => (match t, a, b with
    | some _, some (.agg a), some (.agg b) => eqA P op T a b
    | some ty, some a, some b => binA op ty a b
    | _, _, _ => none)
def binO' (op : BinOp) (T : TypeId) : Option TY → Option AV → Option AV → Option AV
  | some _, some (.agg a), some (.agg b) => eqA P op T a b
  | some ty, some a, some b => binA op ty a b
  | _, _, _ => none
def binN (op : BinOp) : Option TY → Option AV → Option AV
  | some ty, some (.r v) => ifcA op ty v
  | _, _ => none
@[go_sem] theorem binO_f (op : BinOp) (T : TypeId) (t : Option TY) (a b : Option AV) : binO P op T false t a b = binO' P op T t a b := rfl
@[go_sem] theorem binO_t (op : BinOp) (T : TypeId) (t : Option TY) (a b : Option AV) : binO P op T true t a b = binN op t a := rfl
@[go_sem] theorem isNil_tmp (t : Nat) : isNil (.tmp t) = false := rfl
@[go_sem] theorem isNil_global (t : Nat) : isNil (.global t) = false := rfl
@[go_sem] theorem isNil_func (t : Nat) : isNil (.func t) = false := rfl
@[go_sem] theorem isNil_nil : isNil (.const .nilIface) = true := rfl
@[go_sem] theorem isNil_int (k : IntKind) (n : Int) : isNil (.const (.int k n)) = false := rfl
@[go_sem] theorem isNil_bool (b : Bool) : isNil (.const (.bool b)) = false := rfl
@[go_sem] theorem isNil_str (b : ByteArray) : isNil (.const (.string b)) = false := rfl
@[go_sem] theorem isNil_slice (a : Option Addr) (n m : Nat) : isNil (.const (.slice a n m)) = false := rfl
@[go_sem] theorem isNil_ptr (a : Option Addr) : isNil (.const (.pointer a)) = false := rfl
@[go_sem] theorem isNil_map (a : Option Nat) : isNil (.const (.map a)) = false := rfl
@[go_sem] theorem step_bin (op : BinOp) (T T' : TypeId) (x y : Operand) : stepR P G st (.binOp op T x y T') = ofO st (binO P op T (isNil y) (tyOf P T) (ev st G x) (ev st G y)) := rfl
def unO (op : UnOp) : Option AV → Option AV
  | some a => unA op a
  | none => none
@[go_sem] theorem step_un (op : UnOp) (T : TypeId) (x : Operand) : stepR P G st (.unOp op T x) = ofO st (unO op (ev st G x)) := rfl
def cvO : Option TY → Option TY → Option AV → Option AV
  | some s, some d, some x => cvA P st s d x
  | _, _, _ => none
@[go_sem] theorem step_convert (s d : TypeId) (x : Operand) : stepR P G st (.convert s d x) = ofO st (cvO P st (tyOf P s) (tyOf P d) (ev st G x)) := rfl
def slO : Option TY → Option AV → Option (Option AV) → Option (Option AV) → Option AV
  | some y, some x, some lo, some hi => slA P st y lo hi x
  | _, _, _, _ => none
@[go_sem] theorem step_slice (T : TypeId) (x : Operand) (lo hi : Option Operand) : stepR P G st (.slice T x lo hi none) = ofO st (slO P st (tyOf P T) (ev st G x) (evOpt st G lo) (evOpt st G hi)) := rfl
def sl3O : Option TY → Option AV → Option (Option AV) → Option AV → Option AV → Option AV
  | some y, some x, some lo, some hi, some m => sl3A P st y lo hi m x
  | _, _, _, _, _ => none
@[go_sem] theorem step_slice3 (T : TypeId) (x : Operand) (lo : Option Operand) (hi m : Operand) : stepR P G st (.slice T x lo (some hi) (some m)) = ofO st (sl3O P st (tyOf P T) (ev st G x) (evOpt st G lo) (ev st G hi) (ev st G m)) := rfl
def capO : Option (List AV) → Option TypeId → Option AV
  | some [x], some T => match tyOf P T with
    | some y => capA x y.k
    | none => none
  | _, _ => none
@[go_sem] theorem step_cap (args : Array Operand) (ats : Array TypeId) : stepR P G st (.call { callee := .builtin .cap, args := args, argTypes := ats }) = ofO st (capO P (evs st G args.toList) ats[0]?) := rfl
def faO (f : Nat) : Option TY → Option AV → Option AV
  | some ⟨.struct fs, _, _, _⟩, some x => match fs[f]? with
    | some (off, sz) => if sz = 0 then none else ptrAdd off x
    | none => none
  | _, _ => none
@[go_sem] theorem step_fieldAddr (T : TypeId) (x : Operand) (f : Nat) : stepR P G st (.fieldAddr T x f) = ofO st (faO f (tyOf P T) (ev st G x)) := rfl
def iaO : Option TY → Option AV → Option AV → Option AV
  | some y, some x, some (.r (.int _ i)) => ixA st P y i x
  | _, _, _ => none
@[go_sem] theorem step_indexAddr (T : TypeId) (x i : Operand) : stepR P G st (.indexAddr T x i) = ofO st (iaO P st (tyOf P T) (ev st G x) (ev st G i)) := rfl
def ivO : Option TY → Option AV → Option AV → Option AV
  | some y, some x, some (.r (.int _ i)) => ixV P y i x
  | _, _, _ => none
@[go_sem] theorem step_index (T : TypeId) (x i : Operand) : stepR P G st (.index T x i) = ofO st (ivO P (tyOf P T) (ev st G x) (ev st G i)) := rfl
def exO (i : Nat) : Option AV → Option AV
  | some (.tup c) => c[i]?
  | _ => none
@[go_sem] theorem step_extract (t : Operand) (i : Nat) : stepR P G st (.extract t i) = ofO st (exO i (ev st G t)) := rfl
def lenO : Option (List AV) → Option TypeId → Option AV
  | some [x], some T => match tyOf P T with
    | some y => lenA x y.k
    | none => none
  | _, _ => none
def buildO : Option TY → Option (List (Nat × AV)) → Option AV
  | some ⟨.struct fs, _, _, some z⟩, some l => (fillA (fs[·]?) (z.map .r) l).map .agg
  | some ⟨.arr _ e, _, _, some z⟩, some l => match tyOf P e with
    | some ye => (fillA (fun i => some (i * ye.size, ye.size)) (z.map .r) l).map .agg
    | none => none
  | _, _ => none
@[go_sem] theorem step_build (T : TypeId) (ps : Array (Nat × Operand)) : stepR P G st (.build T ps) = ofO st (buildO P (tyOf P T) (evParts st G ps.toList)) := rfl
def ifcO (T : TypeId) : Option TY → Option AV → Option AV
  | some ⟨.ifc, _, _, _⟩, _ => none
  | some _, some x => some (.ifc T x)
  | _, _ => none
@[go_sem] theorem step_makeInterface (T : TypeId) (x : Operand) : stepR P G st (.makeInterface T x) = ofO st (ifcO T (tyOf P T) (ev st G x)) := rfl
@[go_sem] theorem step_len (args : Array Operand) (ats : Array TypeId) : stepR P G st (.call { callee := .builtin .len, args := args, argTypes := ats }) = ofO st (lenO P (evs st G args.toList) ats[0]?) := rfl
@[go_sem] theorem step_value (f : Operand) (args : Array Operand) (ats : Array TypeId) : stepR P G st (.call { callee := .value f, args := args, argTypes := ats }) = ofF (ev st G f) (evs st G args.toList) := rfl
@[go_sem] theorem step_append (args : Array Operand) (ats : Array TypeId) : stepR P G st (.call { callee := .builtin .append, args := args, argTypes := ats }) = ofE (effR P G st (.call { callee := .builtin .append, args := args, argTypes := ats })) := rfl
@[go_sem] theorem step_clear (args : Array Operand) (ats : Array TypeId) : stepR P G st (.call { callee := .builtin .clear, args := args, argTypes := ats }) = ofE (effR P G st (.call { callee := .builtin .clear, args := args, argTypes := ats })) := rfl
@[go_sem] theorem step_box (T : TypeId) (x : Operand) : stepR P G st (.box T x) = ofE (effR P G st (.box T x)) := rfl
@[go_sem] theorem step_alloc (T : TypeId) : stepR P G st (.alloc T) = ofE (effR P G st (.alloc T)) := rfl
@[go_sem] theorem step_store (T : TypeId) (x v : Operand) : stepR P G st (.store T x v) = ofE (effR P G st (.store T x v)) := rfl
@[go_sem] theorem step_buildSlice (T : TypeId) (n : Nat) (ps : Array (Nat × Operand)) : stepR P G st (.buildSlice T n ps) = ofE (effR P G st (.buildSlice T n ps)) := rfl
@[go_sem] theorem step_makeSlice (T : TypeId) (l c : Operand) : stepR P G st (.makeSlice T l c) = ofE (effR P G st (.makeSlice T l c)) := rfl
@[go_sem] theorem step_panic (x : Operand) : stepR P G st (.panic x) = ofP (ev st G x) := rfl
attribute [go_sem] zerosA ren renL renNd shO sl3O sl3A capO capA buildO ifcO eqA eqFs eqT eqC pickO loadO nilO binO' binN ifcA unO cvO slO faO iaO ivO exO lenO ofO ofE ofF ofP effR gvOf ev evs lk AS.put putNd setNd binA isSh shA intA strA cellsAt pickC ptrAdd ixA ixV lenA lenS pickAV boolOf TK.agg unA evOpt elemsOf AV.okPart AV.cells AV.cell1 splice elsL frz frzL rm srcA fillA evParts bnd slA cvA nilA
end
section
variable {P : Program} {E : Env} {N : Nat} {st : AS} {AQ : AExit → AS → Prop}
theorem awp_rg {id : Nat} {ops : Array Oper} {ds : List (Option Nat)} {l : List Oper} (hd : dstOK N ops = true) (hds : dsOf ops = ds) (hl : ops.toList = l)
    (h : ∀ (K : AS → Prop) (kp : AV → AS → Prop), (∀ st', AQ .normal st' → K st') → (∀ x st', AQ (.pan x) st' → kp x st') → ex P E N ds kp l st K) : AWP P E N (.region id ops false) st AQ :=
  awp_region hd hds hl (exec_of (h _ _ (fun _ h => h) (fun _ _ h => h)))
theorem awp_dr {id : Nat} {ops : Array Oper} {ds : List (Option Nat)} {l l' : List Oper} (hm : P.follows .mixedOrders = true) (n : Nat) (ord : List Nat) (hB : okDraw ops n ord = true) (hd : dstOK N ops = true) (hg : ((ordOf ops ord).all fun o => isG o.op) = true)
    (hds : dsOf ops = ds) (ht : ops.toList.drop n = l') (hh : ordOf ops ord = l) (h : ∀ (K : AS → Prop) (kp : AV → AS → Prop), (∀ st', AQ .normal st' → K st') → (∀ x st', AQ (.pan x) st' → kp x st') → exD P E N ds kp l' l st K) : AWP P E N (.region id ops true) st AQ :=
  awp_draw hm n ord hB hd hds ht hh (execD_of (by rw [← hh]; exact hg) (h _ _ (fun _ h => h) (fun _ _ h => h)))
variable {ds : List (Option Nat)} {kp : AV → AS → Prop} {tail rest : List Oper} {K : AS → Prop} {d : Option Nat}
theorem callR_is {f : Nat} {xs ys : List AV} {res res' : AV} {os : List (Nat × Nd)} {m : Nat} {st' : AS} (hc : Con P E.G f ys [] 0 (Is res os m) No) (hb : borL st xs = some ys) (hp : PT res) (hp' : ∀ p ∈ os, PTNd p.2) (hr : ren (· + st.n) res = res') (hs : { st with o := shO st.n os ++ st.o, n := st.n + m } = st')
    (hk : ex P E N ds kp rest (st'.put d res') K) : callR P E N ds kp rest st K f xs d :=
  (callG_is hc hb hp hp' (by subst hr hs; exact hk)).v
theorem callR_r {f : Nat} {xs ys : List AV} {v : Value} (hc : Con P E.G f ys [] 0 (Is (.r v) [] 0) No) (hb : borL st xs = some ys) (hk : ex P E N ds kp rest (st.put d (.r v)) K) : callR P E N ds kp rest st K f xs d :=
  (callG_r hc hb hk).v
theorem callR_ro {f : Nat} {xs ys : List AV} {kk : Nat} {els : List (List AV)} (hc : Con P E.G f ys [] 0 (Is (.ro true kk els) [] 0) No) (hb : borL st xs = some ys) (hp : ∀ e ∈ els, ∀ x ∈ e, PT x) (hk : ex P E N ds kp rest (st.put d (.ro true kk els)) K) : callR P E N ds kp rest st K f xs d :=
  (callG_ro hc hb hp hk).v
theorem callR_own (σ : List Nat) {f : Nat} {xs ys : List AV} {oc os : List (Nat × Nd)} {res res' : AV} {m : Nat} {st' : AS} (hc : Con P E.G f ys oc σ.length (Is res os m) No) (hb : pasL σ st xs = some ys) (ho : okO σ st.o oc) (hall : ∀ i, i < σ.length → ∃ nd, lk oc i = some nd)
    (hlt : ∀ i ∈ σ, i < st.n) (hnd : σ.Nodup) (hbig : st.n ≤ 1000000000) (hp : PT res) (hp' : ∀ p ∈ os, PTNd p.2) (hr : ren (fw σ st.n) res = res') (hs : { st with o := mapO (fw σ st.n) os ++ rmL σ st.o, n := st.n + (m - σ.length) } = st') (hk : ex P E N ds kp rest (st'.put d res') K) : callR P E N ds kp rest st K f xs d :=
  ⟨σ, callT_of_con hc hb ho hall hlt hnd hbig (fun y o n ⟨h1, h2, h3⟩ => by subst h1 h2 h3 hr hs; exact ⟨hp, hp', hk⟩) (fun _ _ _ h => h.elim)⟩
theorem awp_r {id : Nat} {ops : Array Oper} (hd : dstOK N ops = true) (h : ∀ (K : AS → Prop) (kp : AV → AS → Prop), (∀ st', AQ .normal st' → K st') → (∀ x st', AQ (.pan x) st' → kp x st') → ex P E N (dsOf ops) kp ops.toList st K) : AWP P E N (.region id ops false) st AQ :=
  awp_rg hd rfl rfl h
theorem callR_i {f : Nat} {xs ys : List AV} {res : AV} {os : List (Nat × Nd)} {m : Nat} (hc : Con P E.G f ys [] 0 (Is res os m) No) (hb : borL st xs = some ys) (hp : PT res) (hq : ∀ p ∈ os, PTNd p.2)
    (hk : ex P E N ds kp rest ({ st with o := shO st.n os ++ st.o, n := st.n + m }.put d (ren (· + st.n) res)) K) : callR P E N ds kp rest st K f xs d := callR_is hc hb hp hq rfl rfl hk
theorem callD_i {f : Nat} {xs ys : List AV} {res : AV} {os : List (Nat × Nd)} {m : Nat} (hc : Con P E.G f ys [] 0 (Is res os m) No) (hb : borL st xs = some ys) (hp : PT res) (hq : ∀ p ∈ os, PTNd p.2)
    (hk : exD P E N ds kp tail rest ({ st with o := shO st.n os ++ st.o, n := st.n + m }.put d (ren (· + st.n) res)) K) : callD P E N ds kp tail rest st K f xs d := callG_is hc hb hp hq hk
theorem callR_q {f : Nat} {xs ys : List AV} {Q : AV → List (Nat × Nd) → Nat → Prop} (hc : Con P E.G f ys [] 0 Q No) (hb : borL st xs = some ys)
    (hk : ∀ y o m, Q y o m → PT y ∧ (∀ p ∈ o, PTNd p.2) ∧ ex P E N ds kp rest ({ st with o := shO st.n o ++ st.o, n := st.n + m }.put d (ren (· + st.n) y)) K) : callR P E N ds kp rest st K f xs d :=
  (callG_of_con hc hb hk (fun _ _ _ h => h.elim)).v
theorem callD_q {f : Nat} {xs ys : List AV} {Q : AV → List (Nat × Nd) → Nat → Prop} (hc : Con P E.G f ys [] 0 Q No) (hb : borL st xs = some ys)
    (hk : ∀ y o m, Q y o m → PT y ∧ (∀ p ∈ o, PTNd p.2) ∧ exD P E N ds kp tail rest ({ st with o := shO st.n o ++ st.o, n := st.n + m }.put d (ren (· + st.n) y)) K) : callD P E N ds kp tail rest st K f xs d :=
  callG_of_con hc hb hk (fun _ _ _ h => h.elim)
theorem callD_is {f : Nat} {xs ys : List AV} {res res' : AV} {os : List (Nat × Nd)} {m : Nat} {st' : AS} (hc : Con P E.G f ys [] 0 (Is res os m) No) (hb : borL st xs = some ys) (hp : PT res) (hp' : ∀ p ∈ os, PTNd p.2) (hr : ren (· + st.n) res = res') (hs : { st with o := shO st.n os ++ st.o, n := st.n + m } = st')
    (hk : exD P E N ds kp tail rest (st'.put d res') K) : callD P E N ds kp tail rest st K f xs d :=
  callG_is hc hb hp hp' (by subst hr hs; exact hk)
theorem callD_r {f : Nat} {xs ys : List AV} {v : Value} (hc : Con P E.G f ys [] 0 (Is (.r v) [] 0) No) (hb : borL st xs = some ys) (hk : exD P E N ds kp tail rest (st.put d (.r v)) K) : callD P E N ds kp tail rest st K f xs d :=
  callG_r hc hb hk
theorem callD_ro {f : Nat} {xs ys : List AV} {kk : Nat} {els : List (List AV)} (hc : Con P E.G f ys [] 0 (Is (.ro true kk els) [] 0) No) (hb : borL st xs = some ys) (hp : ∀ e ∈ els, ∀ x ∈ e, PT x) (hk : exD P E N ds kp tail rest (st.put d (.ro true kk els)) K) : callD P E N ds kp tail rest st K f xs d :=
  callG_ro hc hb hp hk
@[go_sem] theorem loA_ok {h : Nat} {k : IntKind} {l : Int} (h1 : 0 ≤ l) (h2 : l ≤ h) : loA h (some (.r (.int k l))) = some l.toNat := by simp [loA, h1, h2]
@[go_sem] theorem hiA_ok {len : Nat} {k : IntKind} {h : Int} (h1 : 0 ≤ h) (h2 : h ≤ len) : hiA len (some (.r (.int k h))) = some h.toNat := by simp [hiA, h1, h2]
@[go_sem] theorem loA_none (h : Nat) : loA h none = some 0 := rfl
@[go_sem] theorem hiA_none (h : Nat) : hiA h none = some h := rfl
@[go_sem] theorem nat_to1 (k : Nat) : ((k : Int) + 1).toNat = k + 1 := by omega
@[go_sem] theorem nat_ge1 (k : Nat) : ((0 : Int) ≤ (k : Int) + 1) = True := eq_true (by omega)
@[go_sem] theorem nat_to2 (k : Nat) : ((k : Int) + 2).toNat = k + 2 := by omega
@[go_sem] theorem nat_ge2 (k : Nat) : ((0 : Int) ≤ (k : Int) + 2) = True := eq_true (by omega)
@[go_sem] theorem nat_to3 (k : Nat) : ((k : Int) + 3).toNat = k + 3 := by omega
@[go_sem] theorem nat_ge3 (k : Nat) : ((0 : Int) ≤ (k : Int) + 3) = True := eq_true (by omega)
@[go_sem] theorem nat_to4 (k : Nat) : ((k : Int) + 4).toNat = k + 4 := by omega
@[go_sem] theorem nat_ge4 (k : Nat) : ((0 : Int) ≤ (k : Int) + 4) = True := eq_true (by omega)
@[go_sem] theorem nat_to5 (k : Nat) : ((k : Int) + 5).toNat = k + 5 := by omega
@[go_sem] theorem nat_ge5 (k : Nat) : ((0 : Int) ≤ (k : Int) + 5) = True := eq_true (by omega)
@[go_sem] theorem nat_to6 (k : Nat) : ((k : Int) + 6).toNat = k + 6 := by omega
@[go_sem] theorem nat_ge6 (k : Nat) : ((0 : Int) ≤ (k : Int) + 6) = True := eq_true (by omega)
@[go_sem] theorem nat_to7 (k : Nat) : ((k : Int) + 7).toNat = k + 7 := by omega
@[go_sem] theorem nat_ge7 (k : Nat) : ((0 : Int) ≤ (k : Int) + 7) = True := eq_true (by omega)
@[go_sem] theorem nat_to8 (k : Nat) : ((k : Int) + 8).toNat = k + 8 := by omega
@[go_sem] theorem nat_ge8 (k : Nat) : ((0 : Int) ≤ (k : Int) + 8) = True := eq_true (by omega)
@[go_sem] theorem take_map_len {α β : Type} (f : α → β) (l : List α) : List.take l.length (l.map f) = l.map f := List.take_of_length_le (by simp)
@[go_sem] theorem ite_le {α : Type} {a b : Nat} {x y : α} (h : a ≤ b) : (if a ≤ b then x else y) = x := if_pos h
theorem take_ge {α : Type} {n : Nat} {l : List α} (h : l.length ≤ n) : l.take n = l := List.take_of_length_le h
theorem pt_r (v : Value) : PT (.r v) = True := eq_true (.r v)
theorem pt_s (n lo len : Nat) : PT (.s n lo len) = True := eq_true (.s n lo len)
theorem pt_ro (k : Nat) (els : List (List AV)) : PT (.ro true k els) = ∀ e ∈ els, ∀ x ∈ e, PT x := propext ⟨fun h => by cases h; assumption, .ro k els⟩
theorem pt_tup (c : List AV) : PT (.tup c) = ∀ x ∈ c, PT x := propext ⟨fun h => by cases h; assumption, .tup c⟩
theorem pt_agg (c : List AV) : PT (.agg c) = ∀ x ∈ c, PT x := propext ⟨fun h => by cases h; assumption, .agg c⟩
theorem retA_intro {rs : List ResultVar} {Q R : AV → List (Nat × Nd) → Nat → Prop} {l : List AV} {y : AV} {o : List (Nat × Nd)} {n : Nat} (hl : rvsA P st rs = some l) (hq : Q y o n) (he : EmbS E N st (oneA l) o n y) : retA P E N rs Q R .ret st := by
  simp only [retA, hl]
  exact ⟨y, o, n, hq, he⟩
theorem retA_is {rs : List ResultVar} {R : AV → List (Nat × Nd) → Nat → Prop} {l : List AV} {y : AV} {o : List (Nat × Nd)} {n : Nat} (hl : rvsA P st rs = some l) (he : EmbS E N st (oneA l) o n y) : retA P E N rs (Is y o n) R .ret st := retA_intro hl ⟨rfl, rfl, rfl⟩ he
/-- The same arguments under another description. -/
theorem Con.args {G : List (Nat × List Value)} {f : Nat} {xs xs' : List AV} {o : List (Nat × Nd)} {n : Nat} {Q R : AV → List (Nat × Nd) → Nat → Prop} (hc : Con P G f xs' o n Q R) (h : ∀ w z th vs, Reps w z th xs vs → Reps w z th xs' vs) : Con P G f xs o n Q R :=
  ⟨hc.1, fun w th z own vs ho hm hr => hc.2 w th z own vs ho hm (h _ _ _ _ hr)⟩
theorem nil_ro {w : World} {z : Zone} {th : List NLoc} (t : Bool) (k : Nat) {v : Value} (h : Rep w z th (.r (.slice none 0 0)) v) : Rep w z th (.ro t k []) v := by
  rw [show v = .slice none 0 0 from h.r_inv]; exact .nil _ _ _ _ _
/-- A law's function: what the arguments bear is read alone; the world is as it was. -/
theorem law_of_con {f : Nat} {G : List (Nat × List Value)} {xs : List AV} {v : Value} (hc : Con P G f xs [] 0 (Is (.r v) [] 0) No) (w : World) (vs : List Value) (hr : Reps w (fun _ b => b < w.heap.size) [] xs vs)
    (hG : ∀ g cs, (g, cs) ∈ G → g < w.heap.size ∧ ∀ (j : Nat) u, cs[j]? = some u → w.cell? ⟨g, j, none⟩ = some u) : Calls P f vs.toArray w (fun e w' => e = .returned v ∧ Go.RowKit.Below w.heap.size w w') := by
  have hm : Mem ⟨w, fun _ => False, fun _ b => b < w.heap.size, G, []⟩ [] 0 [] (fun _ b => b < w.heap.size) w :=
    ⟨rfl, fun i nd hi => by simp [lk] at hi, fun i j x y L M hi => by simp [lk] at hi, fun _ _ h => h, Nat.le_refl _, fun _ _ _ => rfl, fun _ _ h => h, fun b h => .inl h, fun b h => h, hG, fun i L hi => by simp at hi, Sys.refl w⟩
  refine (hc.2 w [] _ (fun _ => False) vs (fun b => by simp [lk]) hm hr).mono ?_
  rintro e w' ⟨u, y, o', n', th', z', hh, hm', hv⟩
  rcases hh with ⟨rfl, rfl, rfl, rfl⟩ | ⟨_, h⟩
  · have := hv.r_inv; subst this
    exact ⟨rfl, hm'.sys.1, hm'.sys.2.1, hm'.sys.2.2, hm'.grow, fun k hk => hm'.frame k hk (fun h => h)⟩
  · exact h.elim
end
class PTf {α : Type} (f : α → List AV) : Prop where
  pt : ∀ a, ∀ x ∈ f a, PT x
theorem pt_map {α : Type} (f : α → List AV) [h : PTf f] (l : List α) : ∀ e ∈ l.map f, ∀ x ∈ e, PT x := by
  intro e he x hx
  obtain ⟨a, _, rfl⟩ := List.mem_map.1 he
  exact h.pt a x hx
@[simp] theorem ptA_eByte (a : UInt8) : (∀ x, x ∈ eByte a → PT x) = True := eq_true (by intro x hx; simp [eByte] at hx; subst hx; exact .r _)
instance : PTf eByte := ⟨fun a => of_eq_true (ptA_eByte a)⟩
attribute [simp] pt_r pt_s pt_ro pt_tup pt_agg PTNd
@[go_sem] theorem take_map2 {α β γ : Type} (f : α → β) (g : β → γ) (l : List α) : List.take l.length ((l.map f).map g) = (l.map f).map g := List.take_of_length_le (by simp)
@[go_sem] theorem take_app1 {α β : Type} (f : α → β) (l : List α) (a : β) : List.take (l.length + 1) (l.map f ++ [a]) = l.map f ++ [a] := List.take_of_length_le (by simp)
@[go_sem] theorem take_app2 {α β : Type} (f : α → β) (l : List α) (a b : β) : List.take (l.length + 2) (l.map f ++ [a, b]) = l.map f ++ [a, b] := List.take_of_length_le (by simp)
@[go_sem] theorem take_app3 {α β : Type} (f : α → β) (l : List α) (a b c : β) : List.take (l.length + 3) (l.map f ++ [a, b, c]) = l.map f ++ [a, b, c] := List.take_of_length_le (by simp)
@[go_sem] theorem take_appm {α β γ : Type} (f : α → β) (g : γ → β) (l : List α) (r : List γ) : List.take (l.length + r.length) (l.map f ++ r.map g) = l.map f ++ r.map g := List.take_of_length_le (by simp)
@[go_sem] theorem take_app1m {α β γ : Type} (f : α → β) (g : γ → β) (l : List α) (a : β) (r : List γ) : List.take (l.length + 1 + r.length) (l.map f ++ [a] ++ r.map g) = l.map f ++ [a] ++ r.map g := List.take_of_length_le (by simp; omega)
@[go_sem] theorem take_app12 {α β : Type} (f : α → β) (l : List α) (a b c : β) : List.take (l.length + 1 + 2) (l.map f ++ [a] ++ [b, c]) = l.map f ++ [a] ++ [b, c] := List.take_of_length_le (by simp)
attribute [go_sem] wrapA dsOf borL bor borC rvsA rvA List.append_eq List.toList_toArray ordOf List.filterMap_cons List.filterMap_nil
attribute [go_sem] Nat.le_refl Int.le_refl Int.cast_ofNat_Int Int.toNat_zero and_self and_true true_and true_imp_iff false_imp_iff implies_true Bool.not_true Bool.not_false cond_true cond_false decide_true decide_false beq_self_eq_true Option.map_some Option.map_none Option.bind_some List.getElem?_map List.getElem?_cons_zero List.getElem?_cons_succ List.length_cons List.length_nil List.length_map List.length_append Int.toNat_natCast Int.natCast_nonneg List.getElem?_toArray List.map_cons List.map_nil List.all_cons List.all_nil Bool.and_self Bool.or_false Bool.or_true Bool.false_or Bool.true_or Bool.and_false Bool.false_and Bool.and_true Bool.true_and List.nil_append List.cons_append List.append_nil List.drop_nil List.take_nil Nat.zero_add Nat.add_zero Nat.sub_zero List.drop_zero List.take_succ_cons List.take_zero List.drop_succ_cons
attribute [go_sem ↓] reduceIte
attribute [go_sem] Int.reduceToNat Int.reduceLE Int.reduceLT Int.reduceGT Int.reduceGE Int.reduceAdd Int.reduceSub Int.reduceMul Int.reduceNeg Int.reduceBEq Int.reduceBNe Int.reduceEq Int.reduceNe reduceCtorEq Nat.reduceEqDiff Nat.reduceAdd Nat.reduceSub Nat.reduceMul Nat.reduceLT Nat.reduceLeDiff
end Go.AM
/- The abstract machine, 18: regions that draw their order, with stores and appends among what is drawn. -/
namespace Go.AM
open Go
structure ExtX (X : Nat → Prop) (w w' : World) : Prop where
  size : w.heap.size ≤ w'.heap.size
  same : ∀ b, b < w.heap.size → ¬ X b → w'.heap[b]? = w.heap[b]?
  sys : Sys w w'
theorem ExtX.refl (X : Nat → Prop) (w : World) : ExtX X w w := ⟨Nat.le_refl _, fun _ _ _ => rfl, Sys.refl w⟩
theorem ExtX.trans {X : Nat → Prop} {a b c : World} (h : ExtX X a b) (h' : ExtX X b c) : ExtX X a c := ⟨Nat.le_trans h.size h'.size, fun x hx hn => (h'.same x (Nat.lt_of_lt_of_le hx h.size) hn).trans (h.same x hx hn), h.sys.trans h'.sys⟩
section
variable {P : Program} {ops : Array Oper} {Q : Exit → Act → World → Prop} {n : Nat} {L : Array Bool → Act → World → Prop} {X : Nat → Prop}
def anyX (P : Program) (ops : Array Oper) (Q : Exit → Act → World → Prop) (n : Nat) (X : Nat → Prop) (L : Array Bool → Act → World → Prop) : Nat → Array Bool → Act → World → Prop
  | 0, s, a, w => L s a w
  | f + 1, s, a, w => Region.ready .any ops s ≠ [] ∧ ∀ i ∈ Region.ready .any ops s, i < n ∧ wpOp P ops Q i (fun a' w' => ExtX X w w' ∧ anyX P ops Q n X L f (s.setIfInBounds i true) a' w') a w
theorem anyX_out {g : Nat} (hL : ∀ s a w, L s a w → wpAny P .any ops Q g s a w) : ∀ (f : Nat) (s : Array Bool) (a : Act) (w : World), anyX P ops Q n X L f s a w → wpAny P .any ops Q (f + g) s a w
  | 0, s, a, w, h => by rw [Nat.zero_add]; exact hL _ _ _ h
  | f + 1, s, a, w, h => by
    rw [show f + 1 + g = (f + g) + 1 by omega]
    exact ⟨fun h0 => absurd h0 h.1, fun i hi => wpOp_mono (fun a' w' h' => anyX_out hL f _ a' w' h'.2) (h.2 i hi).2⟩
theorem yields_extX {oi : Oper} {v : Value} {a : Act} {w w' : World} (h : YieldsIf P ops (ExtX X w) oi v a) (e : ExtX X w w') : YieldsIf P ops (ExtX X w') oi v a :=
  h.imp (fun ⟨h1, h2⟩ => ⟨h1, fun x hx => h2 x (e.trans hx)⟩) id
theorem anyX_first {i : Nat} {oi : Oper} {v : Value} (hi : ops[i]? = some oi) (hsel : ∀ (j : Nat) (o : Oper) cs b, ops[j]? = some o → o.op ≠ .select cs b)
    (hQ : ∀ c a w, Q (.panic c) (a.put oi.dst v) w → Q (.panic c) a w) (hlt : ∀ s, HeadInv .any ops n s → ∀ i, i < n → s.getD i true = false → ∀ j ∈ Region.ready .any ops s, j < n) (hin : i < n)
    (hdone : ∀ s a w, L s a w → ∀ j ∈ Region.ready .any ops s, n ≤ j) : ∀ (f : Nat) (s : Array Bool) (a : Act) (w : World), HeadInv .any ops n s →
      (∀ j oj, ops[j]? = some oj → j ≠ i → s.getD j true = false → (∀ e ∈ oj.after, Region.binds .any e = true → e.on ≠ i) → oi.apart ops oj = true) →
      i ∈ Region.ready .any ops s → YieldsIf P ops (ExtX X w) oi v a → anyX P ops Q n X L f (s.setIfInBounds i true) (a.put oi.dst v) w → anyX P ops Q n X L (f + 1) s a w := by
  intro f
  induction f with
  | zero =>
    intro s a w inv _ hr hy H
    refine ⟨fun h => (by rw [h] at hr; cases hr), fun j hj => ?_⟩
    have hjn : j < n := hlt s inv i hin (mem_ready.1 hr).1 j hj
    by_cases hji : j = i
    · subst hji; exact ⟨hjn, hy.wpOp hi (ExtX.refl X w) ⟨ExtX.refl X w, H⟩⟩
    · have := hdone _ _ _ H j (ready_mono hj hji)
      omega
  | succ f ih =>
    intro s a w inv hfree hr hy H
    refine ⟨fun h => (by rw [h] at hr; cases hr), fun j hj => ?_⟩
    have hjn : j < n := hlt s inv i hin (mem_ready.1 hr).1 j hj
    refine ⟨hjn, ?_⟩
    by_cases hji : j = i
    · subst hji; exact hy.wpOp hi (ExtX.refl X w) ⟨ExtX.refl X w, H⟩
    · have h1 := (H.2 j (ready_mono hj hji)).2
      obtain ⟨hjun, oj, hoj, hall⟩ := mem_ready.1 hj
      have hiun := (mem_ready.1 hr).1
      have hnot : ∀ e ∈ oj.after, Region.binds .any e = true → e.on ≠ i := fun e he hb heq => by
        have h2 := hall e he hb
        rw [heq, getD_both hiun] at h2
        cases h2
      have h2 := wpOp_putIf hoj (hfree j oj hoj hji hjun hnot) (fun cs b => hsel i oi cs b hi) (fun cs b => hsel j oj cs b hoj) hQ hy h1
      refine wpOp_mono (fun a' w' h3 => ⟨h3.2.1, ih _ a' w' (inv.set hj hjn) (fun k ok hk hki hun hno => hfree k ok hk hki ?_ hno) (ready_mono hr (Ne.symm hji)) (yields_extX h3.1 h3.2.1) ?_⟩) h2
      · by_cases hjk : j = k
        · subst hjk; exact hjun
        · rwa [getD_set_ne true hjk] at hun
      · rw [Array.setIfInBounds_comm _ _ hji]
        exact h3.2.2
end
/-- A state of which own things are hidden. -/
def hid (ws : List Nat) (st : AS) : AS := { st with o := rmL ws st.o }
def prs (ws : List Nat) (st : AS) : Bool := ws.all fun i => (lk st.o i).isSome
def tchOK (ws ts : List Nat) : Bool := ts.all fun t => ws.contains t
def runX (P : Program) (E : Env) (N : Nat) (ws ts : List Nat) (r : SR) (st : AS) (k kp : AV → AS → Prop) : Prop := match r with
  | .cond c v st' => (tchOK ws ts = true ∧ c) ∧ k v st'
  | .call g xs => ∃ ts, (∀ t ∈ ts, t ∈ ws) ∧ CallT P E N g xs st ts k kp
  | _ => False
def runQ (r : SR) (st : AS) (k : AV → AS → Prop) : Prop := match r with
  | .val v _ => k v st
  | _ => False
def exX (P : Program) (E : Env) (N : Nat) (ws : List Nat) (ds : List (Option Nat)) (kp : AV → AS → Prop) (tail : List Oper) : List Oper → AS → (AS → Prop) → Prop
  | [], st, K => ex P E N ds kp tail st K
  | o :: rest, st, K => match gvOf ds st o.guard with
    | .yes => match isQ o.op with
      | true => prs ws st = true ∧ runQ (stepR P E.G (hid ws st) o.op) st (fun v st' => exX P E N ws ds kp tail rest (st'.put o.dst v) K)
      | false => runX P E N ws (tch st E.G o.op) (stepR P E.G st o.op) st (fun v st' => exX P E N ws ds kp tail rest (st'.put o.dst v) K) kp
    | .no => exX P E N ws ds kp tail rest (st.put o.dst (.r (.tuple #[]))) K
    | .bad => False
    | .ask b w => (b = w → match isQ o.op with
      | true => prs ws st = true ∧ runQ (stepR P E.G (hid ws st) o.op) st (fun v st' => exX P E N ws ds kp tail rest (st'.put o.dst v) K)
      | false => runX P E N ws (tch st E.G o.op) (stepR P E.G st o.op) st (fun v st' => exX P E N ws ds kp tail rest (st'.put o.dst v) K) kp) ∧ (b = !w → exX P E N ws ds kp tail rest (st.put o.dst (.r (.tuple #[]))) K)
section
variable {P : Program} {E : Env} {N : Nat} {st : AS} {th : List NLoc} {z : Zone} {a : Act} {w : World}
theorem upon_of_eff' {o : Oper} {k : AV → AS → Prop} {b : Bool} {ts : List Nat} {next : Act → World → Prop} {Q : Exit → Act → World → Prop} (he : Eff P E N o a w th ts st.m k b) (hd : ∀ i, o.dst = some i → i < N)
    (hn : ∀ x st' th' z' a' w', k x st' → Sim E N (st'.put o.dst x) th' z' a' w' → Later th th' → ExtT th ts w w' → next a' w') : o.wp P a w next Q := by
  obtain ⟨v, x, st', th', z', w', hrun, hk, hs, hr, hm, _, hl, hx⟩ := he
  unfold Oper.wp
  rcases hrun with hrun | ⟨hrun, rfl⟩
  · rw [hrun, Oper.upon_value]; exact hn x st' th' z' _ w' hk (hs.put hr o.dst hd) hl hx
  · rw [hrun, Oper.upon_skip]; exact hn x st' th' z' _ w' hk (hs.put hr o.dst hd) hl hx
theorem runX_ofE {ws ts : List Nat} {x : Option (Prop × AV × AS)} {k kp : AV → AS → Prop} (h : runX P E N ws ts (ofE x) st k kp) : tchOK ws ts = true ∧ bindE x k := by
  cases x with
  | none => exact h.elim
  | some v => exact ⟨h.1.1, h.1.2, h.2⟩
theorem runX_ofO {ws ts : List Nat} {x : Option AV} {k kp : AV → AS → Prop} (h : runX P E N ws ts (ofO st x) st k kp) : False := by
  cases x with
  | none => exact h
  | some v => exact h
theorem tchOK_mem {ws ts : List Nat} (h : tchOK ws ts = true) : ∀ t ∈ ts, t ∈ ws := by
  intro t ht
  simpa using List.all_eq_true.1 h t ht
theorem stepX_sound (h : Sim E N st th z a w) {ws : List Nat} (o : Oper) {k kp : AV → AS → Prop} (hk : runX P E N ws (tch st E.G o.op) (stepR P E.G st o.op) st k kp) (hd : ∀ i, o.dst = some i → i < N) {next : Act → World → Prop} {Q : Exit → Act → World → Prop}
    (hn : ∀ x st' th' z' a' w' ts, k x st' → Sim E N (st'.put o.dst x) th' z' a' w' → Later th th' → ExtT th ts w w' → (∀ t ∈ ts, t ∈ ws) → next a' w') (hp : ∀ x v st' th' z' w', kp x st' → Sim E N st' th' z' a w' → Rep w' z' th' x v → Q (.panic [{ v := v, recovered := false }]) a w') : o.wp P a w next Q := by
  obtain ⟨dst, op, ty, pos, aft, gd⟩ := o
  simp only at hk
  cases op
  case call c =>
    obtain ⟨callee, args, ats⟩ := c
    cases callee with
    | value f =>
      change runX P E N ws _ (ofF (ev st E.G f) (evs st E.G args.toList)) st k kp at hk
      unfold ofF at hk
      split at hk
      · rename_i g caps xs hf hx
        obtain ⟨ts, hts, hok, hc⟩ := hk
        have hf' := ev_sound h hf
        generalize hv : a.eval f = fv at hf'
        cases hf' with
        | fn _ _ _ ys hl hxx =>
          have hr := (evs_sound h hx).append ⟨hl, hxx⟩
          have hcall := hc th z a w _ h hr
          unfold Oper.wp
          have hrun : (execOp a.eval ⟨dst, .call { callee := .value f, args := args, argTypes := ats }, ty, pos, aft, gd⟩).run P w = .ok (.enter g (List.map a.eval args.toList ++ ys).toArray) w := by
            simp only [execOp, resolve, hv, Deferred.ofValue, Sem.run_bind, Sem.run_pure, Result.andThen_ok, invoke]
            rw [run_callFunc hok]
            congr 2
            apply Array.ext'; simp
          rw [hrun, Oper.upon_enter]
          refine hcall.mono ?_
          rintro e w' ⟨v, x, st', th', z', hh, hm, hs, hrr, hl, hext⟩
          rcases hh with ⟨rfl, hk⟩ | ⟨rfl, hk⟩
          · exact hn x st' th' z' _ w' ts hk (hs.put hrr dst hd) hl hext hts
          · exact hp x v st' th' z' w' hk hs hrr
      · exact hk.elim
    | builtin b =>
      cases b
      case append =>
        obtain ⟨h1, h2⟩ := runX_ofE hk
        exact upon_of_eff' (eff_append h (eff_eq _ _ _ _ _ h2)) hd (fun x st' th' z' a' w' g1 g2 g3 g4 => hn x st' th' z' a' w' _ g1 g2 g3 g4 (tchOK_mem h1))
      case clear =>
        obtain ⟨h1, h2⟩ := runX_ofE hk
        exact upon_of_eff' (eff_clear h (eff_eq _ _ _ _ _ h2)) hd (fun x st' th' z' a' w' g1 g2 g3 g4 => hn x st' th' z' a' w' _ g1 g2 g3 g4 (tchOK_mem h1))
      all_goals (rw [stepR_call_else (by simp) (by simp) (by simp)] at hk; exact (runX_ofO hk).elim)
    | invoke a b => rw [stepR_call_else (by simp) (by simp) (by simp)] at hk; exact (runX_ofO hk).elim
  case panic x =>
    change runX P E N ws _ (ofP (ev st E.G x)) st k kp at hk
    unfold ofP at hk
    split at hk <;> exact hk.elim
  case box => exact upon_of_eff' (eff_box h (eff_eq _ _ _ _ _ (runX_ofE hk).2)) hd (fun x st' th' z' a' w' g1 g2 g3 g4 => hn x st' th' z' a' w' _ g1 g2 g3 g4 (fun t ht => by cases ht))
  case alloc => exact upon_of_eff' (eff_alloc h (eff_eq _ _ _ _ _ (runX_ofE hk).2)) hd (fun x st' th' z' a' w' g1 g2 g3 g4 => hn x st' th' z' a' w' _ g1 g2 g3 g4 (fun t ht => by cases ht))
  case buildSlice => exact upon_of_eff' (eff_buildSlice h (eff_eq _ _ _ _ _ (runX_ofE hk).2)) hd (fun x st' th' z' a' w' g1 g2 g3 g4 => hn x st' th' z' a' w' _ g1 g2 g3 g4 (fun t ht => by cases ht))
  case store =>
    obtain ⟨h1, h2⟩ := runX_ofE hk
    exact upon_of_eff' (eff_store h (eff_eq _ _ _ _ _ h2)) hd (fun x st' th' z' a' w' g1 g2 g3 g4 => hn x st' th' z' a' w' _ g1 g2 g3 g4 (tchOK_mem h1))
  case makeSlice => exact upon_of_eff' (eff_makeSlice h (eff_eq _ _ _ _ _ (runX_ofE hk).2)) hd (fun x st' th' z' a' w' g1 g2 g3 g4 => hn x st' th' z' a' w' _ g1 g2 g3 g4 (fun t ht => by cases ht))
  all_goals first | exact (show False from hk).elim | exact (runX_ofO (st := st) (x := qv P E.G st _) hk).elim
/-- The blocks of the own things of these numbers. -/
def Xs (ws : List Nat) (th0 : List NLoc) (b : Nat) : Prop := ∃ i ∈ ws, ∃ L, th0[i]? = some L ∧ L.ph = false ∧ L.b = b
theorem kn_hid (h : Sim E N st th z a w) {ws : List Nat} {th0 : List NLoc} (hl : Later th0 th) (hp : prs ws st = true) {b : Nat} (hb : Kn (hid ws st) th z b) : ¬ Xs ws th0 b := by
  rintro ⟨i, hi, L, h1, h2, rfl⟩
  have hpi : (lk st.o i).isSome = true := List.all_eq_true.1 hp i hi
  obtain ⟨nd, hnd⟩ := Option.isSome_iff_exists.1 hpi
  have hL := hl i L h1
  obtain ⟨L', k1, _, k3⟩ := h.mem.nds i nd hnd
  rw [hL] at k1; cases k1
  rcases hb with ⟨t, hz⟩ | ⟨m, nd', M, g1, g2, g3, g4⟩
  · exact (k3 h2).2.1 t hz
  · have g1' : lk (rmL ws st.o) m = some nd' := g1
    rw [lk_rmL] at g1'
    split at g1'
    · cases g1'
    · rename_i hm
      have := h.mem.inj m i nd' nd M L g1' hnd g2 hL g3 h2 g4
      subst this
      exact hm hi
theorem sim_hid (h : Sim E N st th z a w) (ws : List Nat) : Sim E N (hid ws st) th z a w :=
  h.sub rfl (fun i x hi => by
    have hi' : lk (rmL ws st.o) i = some x := hi
    rw [lk_rmL] at hi'
    split at hi'
    · cases hi'
    · exact hi') (fun _ _ h => h)
theorem runQ_spec {op : Op} {st' : AS} {k : AV → AS → Prop} (hq : isQ op = true) (h : runQ (stepR P E.G st' op) st k) : ∃ v, qv P E.G st' op = some v ∧ k v st := by
  have key : ∀ x : Option AV, runQ (ofO st' x) st k → ∃ v, x = some v ∧ k v st := by
    intro x hx
    cases x with
    | none => exact hx.elim
    | some v => exact ⟨v, rfl, hx⟩
  cases op
  case call c =>
    obtain ⟨callee, args, ats⟩ := c
    cases callee with
    | value f => simp [isQ] at hq
    | builtin b => cases b <;> first | (simp [isQ] at hq; done) | (rw [stepR_call_else (by simp) (by simp) (by simp)] at h; exact key _ h)
    | invoke a b => simp [isQ] at hq
  all_goals first | (simp [isQ] at hq; done) | exact (show False from h).elim | exact key _ h
theorem extX_of_t {ws ts : List Nat} {th0 : List NLoc} {w' : World} (hl : Later th0 th) (hpre : ∀ i ∈ ws, ∃ L, th0[i]? = some L) (hts : ∀ t ∈ ts, t ∈ ws) (h : ExtT th ts w w') : ExtX (Xs ws th0) w w' :=
  ⟨h.size, fun b hb hX => h.same b hb (fun n hn L hL hp e => by
    obtain ⟨L0, h0⟩ := hpre n (hts n hn)
    have := hl n L0 h0
    rw [hL] at this; cases this
    exact hX ⟨n, hts n hn, L, h0, hp, e⟩), h.sys⟩
theorem exX_sound {ops : Array Oper} {kp : AV → AS → Prop} {Q : Exit → Act → World → Prop} {K : AS → Prop} {n : Nat} {ws : List Nat} {th0 : List NLoc} (hpre : ∀ i ∈ ws, ∃ L, th0[i]? = some L) (hQ : ∀ c a d v w, Q (.panic c) (a.put d v) w → Q (.panic c) a w)
    (hp : ∀ x v st' th' z' a' w', kp x st' → Sim E N st' th' z' a' w' → Rep w' z' th' x v → Q (.panic [{ v := v, recovered := false }]) a' w')
    (hK : ∀ st' th' z' a' w', K st' → Sim E N st' th' z' a' w' → Q .normal a' w') (hd : ∀ o ∈ ops.toList, ∀ i, o.dst = some i → i < N)
    (h1 : Region.noSelect ops = true) (h2 : ∀ s, HeadInv .any ops n s → ∀ i, i < n → s.getD i true = false → ∀ j ∈ Region.ready .any ops s, j < n) :
    ∀ (ord : List Nat) {s : Array Bool} {st : AS} {th : List NLoc} {z : Zone} {a : Act} {w : World}, HeadInv .any ops n s → okOrd ops n ord s = true → Sim E N st th z a w → Later th0 th → exX P E N ws (dsOf ops) kp (ops.toList.drop n) (ordOf ops ord) st K → anyX P ops Q n (Xs ws th0) (tailE P ops Q n) ord.length s a w
  | [], s, st, th, z, a, w, inv, ho, h, hl, hx => ⟨ho, exec_sound hp hK _ (fun o ho => hd o (List.mem_of_mem_drop ho)) h (exec_of hx)⟩
  | i :: rest, s, st, th, z, a, w, inv, ho, h, hl, hx => by
    simp only [okOrd, Bool.and_eq_true, decide_eq_true_eq] at ho
    obtain ⟨⟨hin, ho1⟩, ho2⟩ := ho
    cases hi : ops[i]? with
    | none => rw [hi] at ho1; simp at ho1
    | some o =>
      simp only [ordOf, List.filterMap_cons, hi] at hx
      unfold exX at hx
      have hmem : o ∈ ops.toList := Array.mem_toList_iff.2 (Array.mem_of_getElem? hi)
      have hdo := hd o hmem
      simp only [hi] at ho1
      have ih : ∀ {s : Array Bool} {st : AS} {th : List NLoc} {z : Zone} {a : Act} {w : World}, HeadInv .any ops n s → okOrd ops n rest s = true → Sim E N st th z a w → Later th0 th → exX P E N ws (dsOf ops) kp (ops.toList.drop n) (ordOf ops rest) st K → anyX P ops Q n (Xs ws th0) (tailE P ops Q n) rest.length s a w :=
        exX_sound hpre hQ hp hK hd h1 h2 rest
      have hx' : branch (gvOf (dsOf ops) st o.guard) (match isQ o.op with
          | true => prs ws st = true ∧ runQ (stepR P E.G (hid ws st) o.op) st (fun v st' => exX P E N ws (dsOf ops) kp (ops.toList.drop n) (ordOf ops rest) (st'.put o.dst v) K)
          | false => runX P E N ws (tch st E.G o.op) (stepR P E.G st o.op) st (fun v st' => exX P E N ws (dsOf ops) kp (ops.toList.drop n) (ordOf ops rest) (st'.put o.dst v) K) kp) (exX P E N ws (dsOf ops) kp (ops.toList.drop n) (ordOf ops rest) (st.put o.dst (.r (.tuple #[]))) K) := by
        split at hx
        · rename_i e; rw [e]; exact hx
        · rename_i e; rw [e]; exact hx
        · exact hx.elim
        · rename_i e; rw [e]; exact hx
      have guard := guard_sound h hx'
      split at ho1
      · rename_i hq
        simp only [Bool.and_eq_true] at ho1
        obtain ⟨hr, hf⟩ := ho1
        have hr' : i ∈ Region.ready .any ops s := by simpa using hr
        rcases guard with ⟨hw, hs⟩ | ⟨hw, hs⟩
        · rw [hq] at hs
          obtain ⟨hprs, hs⟩ := hs
          obtain ⟨x, hqv, hs⟩ := runQ_spec hq hs
          obtain ⟨v, hrep, hrun⟩ := qv_sound (sim_hid h ws) o hqv
          refine anyX_first hi (Region.noSelect_spec h1) (fun c a w => hQ c a _ _ w) h2 hin (fun s a w hL => seqB_ready hL.1) _ s a w inv (Region.free_spec hi hf) hr' (.inl ⟨hw, fun w' e => hrun w' (fun b hb => e.same b (hb.lt (sim_hid h ws)) (kn_hid h hl hprs hb))⟩)
            (ih (inv.set hr' hin) ho2 (h.put hrep o.dst hdo) hl hs)
        · exact anyX_first hi (Region.noSelect_spec h1) (fun c a w => hQ c a _ _ w) h2 hin (fun s a w hL => seqB_ready hL.1) _ s a w inv (Region.free_spec hi hf) hr' (.inr ⟨hw, rfl⟩)
            (ih (inv.set hr' hin) ho2 (h.put (.r th undef) o.dst hdo) hl hs)
      · rename_i hq
        have hq : isQ o.op = false := by simpa using hq
        simp only [decide_eq_true_eq] at ho1
        have hr' : i ∈ Region.ready .any ops s := by rw [ho1]; simp
        refine ⟨fun h0 => (by rw [h0] at hr'; cases hr'), fun j hj => ?_⟩
        rw [ho1] at hj
        obtain rfl : j = i := by simpa using hj
        refine ⟨hin, ?_⟩
        unfold wpOp
        simp only [hi]
        rcases guard with ⟨hw, hs⟩ | ⟨hw, hs⟩
        · rw [if_pos hw]
          rw [hq] at hs
          exact .inl (stepX_sound h o hs hdo (fun x st' th' z' a' w' ts g1 g2 g3 g4 g5 => ⟨extX_of_t hl hpre g5 g4, ih (inv.set hr' hin) ho2 g2 (hl.trans g3) g1⟩) (fun x v st' th' z' w' g1 g2 g3 => hp x v st' th' z' a w' g1 g2 g3))
        · rw [if_neg (by rw [hw]; exact Bool.false_ne_true)]
          exact ⟨ExtX.refl _ w, ih (inv.set hr' hin) ho2 (h.put (.r th undef) o.dst hdo) hl hs⟩
theorem awp_dx {id : Nat} {ops : Array Oper} {AQ : AExit → AS → Prop} {ds : List (Option Nat)} {l l' : List Oper} (hm : P.follows .mixedOrders = true) (ws : List Nat) (n : Nat) (ord : List Nat) (hB : okDraw ops n ord = true) (hd : dstOK N ops = true)
    (hds : dsOf ops = ds) (ht : ops.toList.drop n = l') (hh : ordOf ops ord = l) (hws : prs ws st = true) (h : ∀ (K : AS → Prop) (kp : AV → AS → Prop), (∀ st', AQ .normal st' → K st') → (∀ x st', AQ (.pan x) st' → kp x st') → exX P E N ws ds kp l' l st K) : AWP P E N (.region id ops true) st AQ := by
  subst hds ht hh
  have h := h (AQ .normal) (fun x st => AQ (.pan x) st) (fun _ h => h) (fun _ _ h => h)
  intro Q hQ th z a w hs
  simp only [okDraw, Bool.and_eq_true, decide_eq_true_eq] at hB
  obtain ⟨⟨⟨b1, b2⟩, b5⟩, b6⟩ := hB
  have hle : n ≤ ops.size := by
    rcases Bool.or_eq_true _ _ ▸ b2 with b2 | b2
    · exact Nat.le_of_eq (of_decide_eq_true b2)
    · simp only [Bool.and_eq_true, decide_eq_true_eq] at b2; exact Nat.le_of_lt b2.2
  have hlt : ∀ s, HeadInv .any ops n s → ∀ i, i < n → s.getD i true = false → ∀ j ∈ Region.ready .any ops s, j < n := by
    intro s inv i hi hs j hj
    rcases Bool.or_eq_true _ _ ▸ b2 with b2 | b2
    · have := of_decide_eq_true b2
      obtain ⟨_, oj, hoj, _⟩ := mem_ready.1 hj
      rw [this]; exact (Array.getElem?_eq_some_iff.1 hoj).1
    · simp only [Bool.and_eq_true, decide_eq_true_eq] at b2
      by_cases h : j < n
      · exact h
      · exact absurd hj (tail_waits b2.1.1 b2.1.2 b2.2 inv _ i rfl hi hs j (by omega))
  let Q' : Exit → Act → World → Prop := fun e a w => match e with
    | .panic c => ∀ a' : Act, a'.defers = a.defers → Q (.panic c) a' w
    | e => Q e a w
  refine wp_mono (Q := Q') ?_ (fun e a w hq => by
    cases e
    case panic c => exact hq a rfl
    all_goals exact hq)
  have inv0 : HeadInv .any ops n (Array.replicate ops.size false) :=
    ⟨by simp, fun j oj _ hl => (by rw [getD_replicate_false] at hl; cases hl), fun t _ ht => getD_in (by simpa using ht) (getD_replicate_false _ _)⟩
  refine wp_region_any hm ?_
  have hpre : ∀ i ∈ ws, ∃ L, th[i]? = some L := by
    intro i hi
    obtain ⟨nd, hnd⟩ := Option.isSome_iff_exists.1 (List.all_eq_true.1 hws i hi)
    obtain ⟨L, h1, _⟩ := hs.mem.nds i nd hnd
    exact ⟨L, h1⟩
  have key := exX_sound (Q := Q') (K := AQ .normal) (kp := fun x st => AQ (.pan x) st) (P := P) (th0 := th) hpre (fun c a d v w hq a' ha => hq a' (by rw [ha]; cases d <;> rfl)) (fun x v st' th' z' a' w' g1 g2 g3 a2 ha => hQ.2.2.2 x v st' th' z' w' g1 g2.mem g3 a2 (ha.trans g2.dfs))
    (fun st' th' z' a' w' g1 g2 => hQ.1 st' th' z' a' w' g1 g2) (dstOK_spec hd) b1 hlt ord inv0 b6 (hs.ext (ext_drew w)) (Later.refl th) h
  have := anyX_out (g := ops.size - n) (fun s a w hL => by
    have := wpAny_of_seq (md := .any) (Q' := Q') (ops.toList.drop n) n s a w (fun j => by simp [List.getElem?_drop]) (by simpa using hL.1) hL.2
    simpa using this) _ _ _ _ key
  rw [b5, show n + (ops.size - n) = ops.size by omega] at this
  exact this
end
@[go_sem] theorem iq_move (x : Operand) : isQ (.move x) = true := rfl
@[go_sem] theorem iq_assign (x : Operand) : isQ (.assign x) = true := rfl
@[go_sem] theorem iq_pick (c a b : Operand) : isQ (.pick c a b) = true := rfl
@[go_sem] theorem iq_load (T : TypeId) (x : Operand) : isQ (.load T x) = true := rfl
@[go_sem] theorem iq_nilCheck (x : Operand) : isQ (.nilCheck x) = true := rfl
@[go_sem] theorem iq_bin (op : BinOp) (T T' : TypeId) (x y : Operand) : isQ (.binOp op T x y T') = true := rfl
@[go_sem] theorem iq_un (op : UnOp) (T : TypeId) (x : Operand) : isQ (.unOp op T x) = true := rfl
@[go_sem] theorem iq_convert (s d : TypeId) (x : Operand) : isQ (.convert s d x) = true := rfl
@[go_sem] theorem iq_slice (T : TypeId) (x : Operand) (lo hi m : Option Operand) : isQ (.slice T x lo hi m) = true := rfl
@[go_sem] theorem iq_fieldAddr (T : TypeId) (x : Operand) (f : Nat) : isQ (.fieldAddr T x f) = true := rfl
@[go_sem] theorem iq_indexAddr (T : TypeId) (x i : Operand) : isQ (.indexAddr T x i) = true := rfl
@[go_sem] theorem iq_index (T : TypeId) (x i : Operand) : isQ (.index T x i) = true := rfl
@[go_sem] theorem iq_extract (t : Operand) (i : Nat) : isQ (.extract t i) = true := rfl
@[go_sem] theorem iq_build (T : TypeId) (ps : Array (Nat × Operand)) : isQ (.build T ps) = true := rfl
@[go_sem] theorem iq_len (args : Array Operand) (ats : Array TypeId) : isQ (.call { callee := .builtin .len, args := args, argTypes := ats }) = true := rfl
@[go_sem] theorem iq_box (T : TypeId) (x : Operand) : isQ (.box T x) = false := rfl
@[go_sem] theorem iq_alloc (T : TypeId) : isQ (.alloc T) = false := rfl
@[go_sem] theorem iq_buildSlice (T : TypeId) (n : Nat) (ps : Array (Nat × Operand)) : isQ (.buildSlice T n ps) = false := rfl
@[go_sem] theorem iq_store (T : TypeId) (x v : Operand) : isQ (.store T x v) = false := rfl
@[go_sem] theorem iq_makeSlice (T : TypeId) (l c : Operand) : isQ (.makeSlice T l c) = false := rfl
@[go_sem] theorem iq_value (f : Operand) (args : Array Operand) (ats : Array TypeId) : isQ (.call { callee := .value f, args := args, argTypes := ats }) = false := rfl
@[go_sem] theorem iq_append (args : Array Operand) (ats : Array TypeId) : isQ (.call { callee := .builtin .append, args := args, argTypes := ats }) = false := rfl
@[go_sem] theorem iq_clear (args : Array Operand) (ats : Array TypeId) : isQ (.call { callee := .builtin .clear, args := args, argTypes := ats }) = false := rfl
@[go_sem] theorem tch_box (st : AS) (G : List (Nat × List Value)) (T : TypeId) (x : Operand) : tch st G (.box T x) = [] := rfl
@[go_sem] theorem tch_alloc (st : AS) (G : List (Nat × List Value)) (T : TypeId) : tch st G (.alloc T) = [] := rfl
@[go_sem] theorem tch_buildSlice (st : AS) (G : List (Nat × List Value)) (T : TypeId) (n : Nat) (ps : Array (Nat × Operand)) : tch st G (.buildSlice T n ps) = [] := rfl
@[go_sem] theorem tch_makeSlice (st : AS) (G : List (Nat × List Value)) (T : TypeId) (l c : Operand) : tch st G (.makeSlice T l c) = [] := rfl
@[go_sem] theorem tch_value (st : AS) (G : List (Nat × List Value)) (f : Operand) (args : Array Operand) (ats : Array TypeId) : tch st G (.call { callee := .value f, args := args, argTypes := ats }) = [] := rfl
def tchP : Option AV → List Nat
  | some (.p n _ _) => [n]
  | _ => []
def tchS : Option (List AV) → List Nat
  | some (.s n _ _ :: _) => [n]
  | _ => []
@[go_sem] theorem tch_store (st : AS) (G : List (Nat × List Value)) (T : TypeId) (x v : Operand) : tch st G (.store T x v) = tchP (ev st G x) := rfl
@[go_sem] theorem tch_append (st : AS) (G : List (Nat × List Value)) (args : Array Operand) (ats : Array TypeId) : tch st G (.call { callee := .builtin .append, args := args, argTypes := ats }) = tchS (evs st G args.toList) := rfl
@[go_sem] theorem tch_clear (st : AS) (G : List (Nat × List Value)) (args : Array Operand) (ats : Array TypeId) : tch st G (.call { callee := .builtin .clear, args := args, argTypes := ats }) = tchS (evs st G args.toList) := rfl
attribute [go_sem] tchP tchS
section
variable (P : Program) (E : Env) (N : Nat) (ws : List Nat) (ds : List (Option Nat)) (kp : AV → AS → Prop) (tail rest : List Oper) (st : AS) (K : AS → Prop)
def goGX (g : GV) (d : Option Nat) (op : Op) : Prop := match g with
  | .yes => match isQ op with
    | true => prs ws st = true ∧ runQ (stepR P E.G (hid ws st) op) st (fun v st' => exX P E N ws ds kp tail rest (st'.put d v) K)
    | false => runX P E N ws (tch st E.G op) (stepR P E.G st op) st (fun v st' => exX P E N ws ds kp tail rest (st'.put d v) K) kp
  | .no => exX P E N ws ds kp tail rest (st.put d (.r (.tuple #[]))) K
  | .bad => False
  | .ask b w => (b = w → match isQ op with
    | true => prs ws st = true ∧ runQ (stepR P E.G (hid ws st) op) st (fun v st' => exX P E N ws ds kp tail rest (st'.put d v) K)
    | false => runX P E N ws (tch st E.G op) (stepR P E.G st op) st (fun v st' => exX P E N ws ds kp tail rest (st'.put d v) K) kp) ∧ (b = !w → exX P E N ws ds kp tail rest (st.put d (.r (.tuple #[]))) K)
def goX (q : Bool) (d : Option Nat) (op : Op) : Prop := match q with
  | true => prs ws st = true ∧ runQ (stepR P E.G (hid ws st) op) st (fun v st' => exX P E N ws ds kp tail rest (st'.put d v) K)
  | false => runX P E N ws (tch st E.G op) (stepR P E.G st op) st (fun v st' => exX P E N ws ds kp tail rest (st'.put d v) K) kp
def goXQ (r : SR) (d : Option Nat) : Prop := runQ r st (fun v st' => exX P E N ws ds kp tail rest (st'.put d v) K)
def goXW (ts : List Nat) (r : SR) (d : Option Nat) : Prop := runX P E N ws ts r st (fun v st' => exX P E N ws ds kp tail rest (st'.put d v) K) kp
def callX (g : Nat) (xs : List AV) (d : Option Nat) : Prop := ∃ ts, (∀ t ∈ ts, t ∈ ws) ∧ CallT P E N g xs st ts (fun v st' => exX P E N ws ds kp tail rest (st'.put d v) K) kp
@[go_sem] theorem exX_nil : exX P E N ws ds kp tail [] st K = ex P E N ds kp tail st K := rfl
@[go_sem] theorem exX_cons (d : Option Nat) (op : Op) (t : TypeId) (p : String) (af : Array Edge) (g : Option (Nat × Bool)) : exX P E N ws ds kp tail (⟨d, op, t, p, af, g⟩ :: rest) st K = goGX P E N ws ds kp tail rest st K (gvOf ds st g) d op := rfl
@[go_sem] theorem goGX_yes (d : Option Nat) (op : Op) : goGX P E N ws ds kp tail rest st K .yes d op = goX P E N ws ds kp tail rest st K (isQ op) d op := rfl
@[go_sem] theorem goGX_no (d : Option Nat) (op : Op) : goGX P E N ws ds kp tail rest st K .no d op = exX P E N ws ds kp tail rest (st.put d (.r (.tuple #[]))) K := rfl
@[go_sem] theorem goGX_tt (d : Option Nat) (op : Op) : goGX P E N ws ds kp tail rest st K (.ask true true) d op = goX P E N ws ds kp tail rest st K (isQ op) d op := by simp [goGX, goX]
@[go_sem] theorem goGX_ff (d : Option Nat) (op : Op) : goGX P E N ws ds kp tail rest st K (.ask false false) d op = goX P E N ws ds kp tail rest st K (isQ op) d op := by simp [goGX, goX]
@[go_sem] theorem goGX_tf (d : Option Nat) (op : Op) : goGX P E N ws ds kp tail rest st K (.ask true false) d op = exX P E N ws ds kp tail rest (st.put d (.r (.tuple #[]))) K := by simp [goGX]
@[go_sem] theorem goGX_ft (d : Option Nat) (op : Op) : goGX P E N ws ds kp tail rest st K (.ask false true) d op = exX P E N ws ds kp tail rest (st.put d (.r (.tuple #[]))) K := by simp [goGX]
@[go_sem] theorem goX_t (d : Option Nat) (op : Op) : goX P E N ws ds kp tail rest st K true d op = (prs ws st = true ∧ goXQ P E N ws ds kp tail rest st K (stepR P E.G (hid ws st) op) d) := rfl
@[go_sem] theorem goX_f (d : Option Nat) (op : Op) : goX P E N ws ds kp tail rest st K false d op = goXW P E N ws ds kp tail rest st K (tch st E.G op) (stepR P E.G st op) d := rfl
@[go_sem] theorem goXQ_val (d : Option Nat) (v : AV) (s : AS) : goXQ P E N ws ds kp tail rest st K (.val v s) d = exX P E N ws ds kp tail rest (st.put d v) K := rfl
@[go_sem] theorem goXW_cond (ts : List Nat) (d : Option Nat) (c : Prop) (v : AV) (s : AS) : goXW P E N ws ds kp tail rest st K ts (.cond c v s) d = ((tchOK ws ts = true ∧ c) ∧ exX P E N ws ds kp tail rest (s.put d v) K) := rfl
@[go_sem] theorem goXW_call (ts : List Nat) (d : Option Nat) (g : Nat) (xs : List AV) : goXW P E N ws ds kp tail rest st K ts (.call g xs) d = callX P E N ws ds kp tail rest st K g xs d := rfl
end
theorem gvOf_ask (ds : List (Option Nat)) (st : AS) : gvOf ds st none = .yes := rfl
attribute [go_sem] hid prs tchOK rmL List.foldl_cons List.foldl_nil List.contains_cons List.contains_nil Option.isSome_some Option.isSome_none
section
variable {P : Program} {E : Env} {N : Nat} {ws : List Nat} {ds : List (Option Nat)} {kp : AV → AS → Prop} {tail rest : List Oper} {st : AS} {K : AS → Prop} {d : Option Nat}
/-- A guard that is not decided: both ways. -/
theorem goGX_ask {b w : Bool} {op : Op} (h1 : b = true → goGX P E N ws ds kp tail rest st K (.ask true w) d op) (h2 : b = false → goGX P E N ws ds kp tail rest st K (.ask false w) d op) : goGX P E N ws ds kp tail rest st K (.ask b w) d op := by
  cases b
  · exact h2 rfl
  · exact h1 rfl
theorem goGD_ask {b w : Bool} {op : Op} (h1 : b = true → goGD P E N ds kp tail rest st K (.ask true w) d op) (h2 : b = false → goGD P E N ds kp tail rest st K (.ask false w) d op) : goGD P E N ds kp tail rest st K (.ask b w) d op := by
  cases b
  · exact h2 rfl
  · exact h1 rfl
theorem goG_ask {b w : Bool} {op : Op} (h1 : b = true → goG P E N ds kp rest st K (.ask true w) d op) (h2 : b = false → goG P E N ds kp rest st K (.ask false w) d op) : goG P E N ds kp rest st K (.ask b w) d op := by
  cases b
  · exact h2 rfl
  · exact h1 rfl
theorem callX_r {f : Nat} {xs ys : List AV} {v : Value} (hc : Con P E.G f ys [] 0 (Is (.r v) [] 0) No) (hb : borL st xs = some ys) (hk : exX P E N ws ds kp tail rest (st.put d (.r v)) K) : callX P E N ws ds kp tail rest st K f xs d :=
  ⟨[], (fun _ h => by cases h), callG_r hc hb hk⟩
theorem callX_ro {f : Nat} {xs ys : List AV} {kk : Nat} {els : List (List AV)} (hc : Con P E.G f ys [] 0 (Is (.ro true kk els) [] 0) No) (hb : borL st xs = some ys) (hp : ∀ e ∈ els, ∀ x ∈ e, PT x) (hk : exX P E N ws ds kp tail rest (st.put d (.ro true kk els)) K) : callX P E N ws ds kp tail rest st K f xs d :=
  ⟨[], (fun _ h => by cases h), callG_ro hc hb hp hk⟩
theorem callX_i {f : Nat} {xs ys : List AV} {res : AV} {os : List (Nat × Nd)} {m : Nat} (hc : Con P E.G f ys [] 0 (Is res os m) No) (hb : borL st xs = some ys) (hp : PT res) (hq : ∀ p ∈ os, PTNd p.2)
    (hk : exX P E N ws ds kp tail rest ({ st with o := shO st.n os ++ st.o, n := st.n + m }.put d (ren (· + st.n) res)) K) : callX P E N ws ds kp tail rest st K f xs d :=
  ⟨[], (fun _ h => by cases h), callG_is hc hb hp hq hk⟩
theorem callX_own (σ : List Nat) {f : Nat} {xs ys : List AV} {oc os : List (Nat × Nd)} {res res' : AV} {m : Nat} {st' : AS} (hc : Con P E.G f ys oc σ.length (Is res os m) No) (hb : pasL σ st xs = some ys) (ho : okO σ st.o oc) (hall : ∀ i, i < σ.length → ∃ nd, lk oc i = some nd)
    (hlt : ∀ i ∈ σ, i < st.n) (hnd : σ.Nodup) (hbig : st.n ≤ 1000000000) (hw : ∀ t ∈ σ, t ∈ ws) (hp : PT res) (hp' : ∀ p ∈ os, PTNd p.2) (hr : ren (fw σ st.n) res = res') (hs : { st with o := mapO (fw σ st.n) os ++ rmL σ st.o, n := st.n + (m - σ.length) } = st') (hk : exX P E N ws ds kp tail rest (st'.put d res') K) : callX P E N ws ds kp tail rest st K f xs d :=
  ⟨σ, hw, callT_of_con hc hb ho hall hlt hnd hbig (fun y o n ⟨h1, h2, h3⟩ => by subst h1 h2 h3 hr hs; exact ⟨hp, hp', hk⟩) (fun _ _ _ h => h.elim)⟩
end
end Go.AM
/- The abstract machine, 21: regions that draw their order, where what allocates is not ordered: whatever order, the state comes out as in the written one. -/
namespace Go.AM
open Go
/-- The first says no more than the second. -/
structure AS.le (s s' : AS) : Prop where
  m : ∀ i x, lk s.m i = some x → lk s'.m i = some x
  o : ∀ i x, lk s.o i = some x → lk s'.o i = some x
section
variable {G : List (Nat × List Value)} {s s' : AS}
theorem ev_mono (h : s.le s') {x : Operand} {v : AV} (he : ev s G x = some v) : ev s' G x = some v := by
  cases x with
  | tmp t => exact h.m _ _ he
  | const v => exact he
  | global g => exact he
  | func f => exact he
theorem evs_mono (h : s.le s') : ∀ {l : List Operand} {c : List AV}, evs s G l = some c → evs s' G l = some c
  | [], c, he => he
  | x :: r, c, he => by
    simp only [evs] at he ⊢
    split at he
    · rename_i a l h1 h2; cases he; rw [ev_mono h h1, evs_mono h h2]
    · cases he
mutual
theorem bor_mono (h : s.le s') : ∀ (x : AV) {y : AV}, bor s x = some y → bor s' x = some y
  | .s n lo len, y, hb => by
    simp only [bor] at hb ⊢
    split at hb
    · rename_i T k els hn; rw [h.o _ _ hn]; exact hb
    · cases hb
  | .p n i off, y, hb => by
    simp only [bor] at hb ⊢
    split at hb
    · rename_i T c hn; rw [h.o _ _ hn]; exact hb
    · cases hb
  | .r u, y, hb => hb
  | .ro t k els, y, hb => hb
  | .re t c off, y, hb => hb
  | .agg c, y, hb => by
    simp only [bor, Option.map_eq_some_iff] at hb ⊢
    obtain ⟨c', h1, h2⟩ := hb; exact ⟨c', borL_mono h c h1, h2⟩
  | .tup c, y, hb => by
    simp only [bor, Option.map_eq_some_iff] at hb ⊢
    obtain ⟨c', h1, h2⟩ := hb; exact ⟨c', borL_mono h c h1, h2⟩
  | .fn f c, y, hb => by
    simp only [bor, Option.map_eq_some_iff] at hb ⊢
    obtain ⟨c', h1, h2⟩ := hb; exact ⟨c', borL_mono h c h1, h2⟩
  | .ifc t x, y, hb => by
    simp only [bor, Option.map_eq_some_iff] at hb ⊢
    obtain ⟨c', h1, h2⟩ := hb; exact ⟨c', bor_mono h x h1, h2⟩
theorem borL_mono (h : s.le s') : ∀ (c : List AV) {d : List AV}, borL s c = some d → borL s' c = some d
  | [], d, hb => hb
  | x :: r, d, hb => by
    simp only [borL] at hb ⊢
    split at hb
    · rename_i y l h1 h2; cases hb; rw [bor_mono h x h1, borL_mono h r h2]
    · cases hb
end
end
mutual
/-- No own thing in it. -/
def pureA : AV → Bool
  | .r _ | .ro _ _ _ | .re _ _ _ => true
  | .agg c | .tup c => pureL c
  | _ => false
def pureL : List AV → Bool
  | [] => true
  | x :: r => pureA x && pureL r
end
mutual
theorem frz_pure (st : AS) : ∀ (x : AV), pureA x = true → frz st x = some (x, st)
  | .r v, _ => rfl
  | .ro t k els, _ => rfl
  | .re t c off, _ => rfl
  | .agg c, h => by simp only [pureA] at h; simp only [frz, frzL_pure st c h]
  | .tup c, h => by simp only [pureA] at h; simp only [frz, frzL_pure st c h]
  | .s n lo len, h => by simp [pureA] at h
  | .p n i off, h => by simp [pureA] at h
  | .fn f c, h => by simp [pureA] at h
  | .ifc t x, h => by simp [pureA] at h
theorem frzL_pure (st : AS) : ∀ (c : List AV), pureL c = true → frzL st c = some (c, st)
  | [], _ => rfl
  | x :: r, h => by
    simp only [pureL, Bool.and_eq_true] at h
    simp only [frzL, frz_pure st x h.1, frzL_pure st r h.2]
end
section
variable {P : Program} {E : Env} {N : Nat} {st : AS} {th : List NLoc} {z : Zone} {a : Act} {w : World}
theorem Rep.lt {x : AV} {v : Value} (h : Rep w z th x v) {f : Nat → Nat} (hf : ∀ i, i < th.length → f i = i) : AM.ren f x = x := by
  have lists : ∀ (c : List AV) (ys : List Value), ys.length = c.length → (∀ (i : Nat) (x : AV) (y : Value), c[i]? = some x → ys[i]? = some y → AM.ren f x = x) → renL f c = c := by
    intro c
    induction c with
    | nil => intro ys _ _; rfl
    | cons x r ih =>
      intro ys hl hx
      match ys, hl with
      | y :: ys, hl =>
        simp only [renL]
        rw [hx 0 x y rfl rfl, ih ys (by simpa using hl) (fun i a b h1 h2 => hx (i + 1) a b (by simpa using h1) (by simpa using h2))]
  induction h with
  | r th v => rfl
  | nil th t k a c => rfl
  | ro th t k els b o c ys hz hc hk hy h1 hx ih => rfl
  | re th t c b o off ys hz hy hx ih => rfl
  | s th n lo len c o L hL hp hl hc ho => simp only [AM.ren]; rw [hf n (List.getElem?_eq_some_iff.1 hL).1]
  | sn th n lo L hL hp => simp only [AM.ren]; rw [hf n (List.getElem?_eq_some_iff.1 hL).1]
  | p th n i off L hL => simp only [AM.ren]; rw [hf n (List.getElem?_eq_some_iff.1 hL).1]
  | agg th c ys hl hx ih => simp only [AM.ren]; rw [lists c ys hl (fun i x y h1 h2 => ih i x y h1 h2 hf)]
  | tup th c ys hl hx ih => simp only [AM.ren]; rw [lists c ys hl (fun i x y h1 h2 => ih i x y h1 h2 hf)]
  | fn th g c ys hl hx ih => simp only [AM.ren]; rw [lists c ys hl (fun i x y h1 h2 => ih i x y h1 h2 hf)]
  | ifc th t x v hx ih => simp only [AM.ren]; rw [ih hf]
theorem Reps.lt {c : List AV} {ys : List Value} (h : Reps w z th c ys) {f : Nat → Nat} (hf : ∀ i, i < th.length → f i = i) : renL f c = c := by
  induction c generalizing ys with
  | nil => rfl
  | cons x r ih =>
    obtain ⟨y, ys', rfl, h1, h2⟩ := h.head
    simp only [renL]; rw [h1.lt hf, ih h2]
theorem NdAt.lt {L : NLoc} {nd : Nd} (h : NdAt w z th L nd) {f : Nat → Nat} (hf : ∀ i, i < th.length → f i = i) : renNd f nd = nd := by
  cases nd with
  | box T c => obtain ⟨_, cells, fr, _, _, _, h4⟩ := h; simp only [renNd]; rw [h4.lt hf]
  | lst T k els => rfl
/-- More numbers than there are things. -/
theorem Sim.more (h : Sim E N st th z a w) (k : Nat) : Sim E N { st with n := st.n + k } (th ++ List.replicate k ⟨0, 0, 0, 0, false⟩) z a w := by
  have m := h.mem
  have old : ∀ i nd L, lk st.o i = some nd → (th ++ List.replicate k (⟨0, 0, 0, 0, false⟩ : NLoc))[i]? = some L → th[i]? = some L := by
    intro i nd L hi hL
    obtain ⟨M, h1, _, _⟩ := m.nds i nd hi
    have := pre_get (List.replicate k (⟨0, 0, 0, 0, false⟩ : NLoc)) h1
    rw [hL] at this; cases this; exact h1
  refine ⟨⟨by simp [m.len], fun i nd hi => ?_, fun i j x y L M hi hj hL hM => m.inj i j x y L M hi hj (old i x L hi hL) (old j y M hj hM), m.zlt, m.grow, m.frame, m.zin, m.zout, m.zb, m.globs, fun i L hi => pre_get _ (m.pre i L hi), m.sys⟩, h.size, h.dfs, fun i x hi => ?_⟩
  · obtain ⟨L, h1, h2, h3⟩ := m.nds i nd hi
    exact ⟨L, pre_get _ h1, h2.on (Le.refl w z) (fun _ => rfl) _, h3⟩
  · obtain ⟨y, hy, hr⟩ := h.slots i x hi
    exact ⟨y, hy, hr.on (Le.refl w z) _⟩
/-- Memory under other numbers; what is asked of what is found alone. -/
theorem Sim.renL (h : Sim E N st th z a w) (ρ : List Nat) {st' : AS} (hr : ∀ j ∈ ρ, j < st.n) (hb : st.n ≤ 1000000000) (hm : ∀ i x, lk st'.m i = some x → lk st.m i = some (ren (by_ ρ) x)) (ho : ∀ i nd, lk st'.o i = some nd → ∃ j, ρ[i]? = some j ∧ lk st.o j = some (renNd (by_ ρ) nd)) (hn : st'.n = ρ.length)
    (hpre : ∀ i, i < E.th0.length → ρ[i]? = some i) (hnd : ρ.Nodup) : Sim E N st' (thOf th ρ) z a w := by
  have m := h.mem
  have hr' : ∀ j ∈ ρ, j < th.length := fun j hj => by rw [m.len]; exact hr j hj
  have hb' : th.length ≤ 1000000000 := by rw [m.len]; exact hb
  refine ⟨⟨by simp [thOf, hn], fun i nd hi => ?_, fun i i' x y L M hi hi' hL hM e1 e2 hbb => ?_, m.zlt, m.grow, m.frame, m.zin, m.zout, m.zb, m.globs, fun i L hi => ?_, m.sys⟩, h.size, h.dfs, fun i x hi => ?_⟩
  · obtain ⟨j, hj, hnd⟩ := ho i nd hi
    obtain ⟨L, k1, k2, k3⟩ := m.nds j _ hnd
    exact ⟨L, by rw [thOf_get hr' hj]; exact k1, k2.unren (thOf_by hr' hb'), k3⟩
  · obtain ⟨j, hj, hx⟩ := ho i x hi
    obtain ⟨j', hj', hy⟩ := ho i' y hi'
    rw [thOf_get hr' hj] at hL
    rw [thOf_get hr' hj'] at hM
    have := m.inj j j' _ _ L M hx hy hL hM e1 e2 hbb
    subst this
    obtain ⟨l1, e1⟩ := List.getElem?_eq_some_iff.1 hj
    exact (List.getElem?_inj l1 hnd).1 (hj.trans hj'.symm)
  · have hi' : i < E.th0.length := (List.getElem?_eq_some_iff.1 hi).1
    rw [thOf_get hr' (hpre i hi')]
    exact m.pre i L hi
  · obtain ⟨y, hy, hrep⟩ := h.slots i _ (hm i x hi)
    exact ⟨y, hy, hrep.unren (thOf_by hr' hb') x rfl⟩
/-- The numbers from r on are found from M on. -/
def rho (M r k : Nat) : List Nat := (List.range M).map fun i => if r ≤ i ∧ i < r + k then M + (i - r) else i
theorem rho_get {M r k i : Nat} (h : i < M) : (rho M r k)[i]? = some (if r ≤ i ∧ i < r + k then M + (i - r) else i) := by
  simp [rho, h]
theorem by_rho {M r k i : Nat} (h : i < M) : by_ (rho M r k) i = if r ≤ i ∧ i < r + k then M + (i - r) else i := by
  simp [by_, rho_get h]
theorem rho_len (M r k : Nat) : (rho M r k).length = M := by simp [rho]
theorem rho_lt {M r k : Nat} (h : r + k ≤ M) : ∀ j ∈ rho M r k, j < M + k := by
  intro j hj
  simp only [rho, List.mem_map, List.mem_range] at hj
  obtain ⟨i, hi, rfl⟩ := hj
  split <;> omega
theorem rho_nodup {M r k : Nat} : (rho M r k).Nodup := by
  unfold rho
  rw [List.Nodup, List.pairwise_map]
  refine List.Pairwise.imp_of_mem ?_ (List.nodup_range (n := M))
  intro i j hi hj hne
  simp only [List.mem_range] at hi hj
  split <;> split <;> omega
/-- What a new thing is, whatever else has been made in the meantime. -/
def FreshW (P : Program) (E : Env) (N : Nat) (R : AS) (o : Oper) (v : AV) (os : List (Nat × Nd)) (k : Nat) : Prop :=
  ∀ (S : AS) (th : List NLoc) (z : Zone) (a : Act) (w : World), R.le S → S.n = R.n → Sim E N S th z a w → ∀ (next : Act → World → Prop) (Q : Exit → Act → World → Prop),
    (∀ th' z' a' w', Sim E N ({ S with o := os ++ S.o, n := S.n + k }.put o.dst v) th' z' a' w' → next a' w') → o.wp P a w next Q
theorem fresh_q {R : AS} {o : Oper} {v : AV} (hd : ∀ i, o.dst = some i → i < N) (hv : qv P E.G R o.op = some v) : FreshW P E N R o v [] 0 := by
  intro S th z a w hle hn hs next Q hnext
  have hR : Sim E N R th z a w := hs.sub hn.symm hle.o hle.m
  obtain ⟨u, hr, hrun⟩ := qv_sound hR o hv
  unfold Oper.wp
  rw [hrun w SameK.refl, Oper.upon_value]
  exact hnext th z _ w (hs.put hr o.dst hd)
theorem fresh_list {R : AS} {o : Oper} {T e : TypeId} {len sz s1 b1 b2 : Nat} {z1 : Option (List Value)} {z2 : List Value} {k2 : TK} {parts : Array (Nat × Operand)} {c : List AV} {els : List (List AV)} (hd : ∀ i, o.dst = some i → i < N) (ho : o.op = .buildSlice T len parts) (hT : tyOf P T = some ⟨.slice e, s1, b1, z1⟩) (hTe : tyOf P e = some ⟨k2, sz, b2, some z2⟩)
    (hc : evs R E.G (parts.toList.map (·.2)) = some c) (hp : pureL c = true) (hels : elsL sz 0 (parts.toList.map (·.1)) c = some els) (hlen : len = els.length ∧ len * sz ≤ 16777216) : FreshW P E N R o (.s R.n 0 len) [(R.n, .lst e sz els)] 1 := by
  intro S th z a w hle hn hs next Q hnext
  have hk : stepG P E N S o.op (fun x s => x = .s S.n 0 len ∧ s = putNd S (.lst e sz els)) (fun _ _ => False) := by
    rw [ho]
    simp only [stepG, effR, hT, evs_mono hle hc, hTe, frzL_pure S c hp, hels, bindE]
    exact ⟨hlen, by simp⟩
  refine stepG_sound hs o hk hd (fun x st' th' z' a' w' ⟨h1, h2⟩ h3 _ => ?_) (fun x v st' th' z' w' h => h.elim)
  subst h1 h2
  refine hnext th' z' a' w' ?_
  rw [← hn]
  exact h3
theorem fresh_alloc {R : AS} {o : Oper} {T : TypeId} {s1 b1 : Nat} {zs : List Value} {k1 : TK} (hd : ∀ i, o.dst = some i → i < N) (ho : o.op = .alloc T) (hT : tyOf P T = some ⟨k1, s1, b1, some zs⟩) : FreshW P E N R o (.p R.n 0 0) [(R.n, .box T (zs.map .r))] 1 := by
  intro S th z a w hle hn hs next Q hnext
  have hk : stepG P E N S o.op (fun x s => x = .p S.n 0 0 ∧ s = putNd S (.box T (zs.map .r))) (fun _ _ => False) := by
    rw [ho]
    simp only [stepG, effR, hT, bindE]
    exact ⟨trivial, by simp⟩
  refine stepG_sound hs o hk hd (fun x st' th' z' a' w' ⟨h1, h2⟩ h3 _ => ?_) (fun x v st' th' z' w' h => h.elim)
  subst h1 h2
  refine hnext th' z' a' w' ?_
  rw [← hn]
  exact h3
theorem fresh_call {R : AS} {o : Oper} {f : Operand} {args : Array Operand} {ats : Array TypeId} {g k : Nat} {caps xs ys : List AV} {res : AV} {os : List (Nat × Nd)} (hd : ∀ i, o.dst = some i → i < N) (ho : o.op = .call { callee := .value f, args := args, argTypes := ats }) (hf : ev R E.G f = some (.fn g caps)) (hx : evs R E.G args.toList = some xs)
    (hc : Con P E.G g ys [] 0 (Is res os k) No) (hb : borL R (xs ++ caps) = some ys) (hp : PT res) (hp' : ∀ p ∈ os, PTNd p.2) : FreshW P E N R o (ren (· + R.n) res) (shO R.n os) k := by
  intro S th z a w hle hn hs next Q hnext
  have hk : stepG P E N S o.op (fun x s => x = ren (· + S.n) res ∧ s = { S with o := shO S.n os ++ S.o, n := S.n + k }) (fun _ _ => False) := by
    rw [ho]
    simp only [stepG, ev_mono hle hf, evs_mono hle hx, bindF]
    exact callG_is hc (borL_mono hle _ hb) hp hp' ⟨rfl, rfl⟩
  refine stepG_sound hs o hk hd (fun x st' th' z' a' w' ⟨h1, h2⟩ h3 _ => ?_) (fun x v st' th' z' w' h => h.elim)
  subst h1 h2
  refine hnext th' z' a' w' ?_
  rw [← hn]
  exact h3
end
/-- What an operation has made: its place, its slot, its value, its own things. -/
structure En where
  i : Nat
  d : Nat
  v : AV
  o : List (Nat × Nd)
/-- The plan of an operation: its numbers from r on (behind those that there are), how many, what it waits for, the numbers that may be made later than it. -/
structure PU where
  r : Nat
  k : Nat
  anc : List Nat
  chk : List (Nat × Nat)
def finM : List En → List (Nat × AV) → List (Nat × AV)
  | [], m => m
  | e :: r, m => (e.d, e.v) :: finM r m
def finO : List En → List (Nat × Nd) → List (Nat × Nd)
  | [], m => m
  | e :: r, m => e.o ++ finO r m
def memN : List Nat → Nat → Bool
  | [], _ => false
  | d :: r, i => if d = i then true else memN r i
theorem memN_eq (l : List Nat) (i : Nat) : memN l i = l.contains i := by
  induction l with
  | nil => rfl
  | cons d r ih =>
    simp only [memN, List.contains_cons, ih]
    by_cases h : d = i
    · subst h; simp
    · rw [if_neg h]; simp [Ne.symm h]
def fltE (anc : List Nat) : List En → List En
  | [] => []
  | e :: r => bif memN anc e.i then e :: fltE anc r else fltE anc r
def fltM (ds : List Nat) : List (Nat × AV) → List (Nat × AV)
  | [] => []
  | p :: r => bif memN ds p.1 then fltM ds r else p :: fltM ds r
def stE (bs : AS) (es : List En) : AS := ⟨finM es bs.m, finO es bs.o, bs.n⟩
theorem fltE_mem {anc : List Nat} {e : En} : ∀ {es : List En}, e ∈ fltE anc es ↔ e ∈ es ∧ anc.contains e.i = true
  | [] => by simp [fltE]
  | x :: r => by
    simp only [fltE, memN_eq]
    cases h : anc.contains x.i
    · simp only [cond_false, fltE_mem (es := r), List.mem_cons]
      constructor
      · rintro ⟨h1, h2⟩; exact ⟨.inr h1, h2⟩
      · rintro ⟨rfl | h1, h2⟩
        · rw [h] at h2; cases h2
        · exact ⟨h1, h2⟩
    · simp only [cond_true, fltE_mem (es := r), List.mem_cons]
      constructor
      · rintro (rfl | ⟨h1, h2⟩)
        · exact ⟨.inl rfl, h⟩
        · exact ⟨.inr h1, h2⟩
      · rintro ⟨rfl | h1, h2⟩
        · exact .inl rfl
        · exact .inr ⟨h1, h2⟩
theorem lk_finM : ∀ {es : List En} {m : List (Nat × AV)} {i : Nat} {x : AV}, lk (finM es m) i = some x → (∃ e ∈ es, e.d = i ∧ e.v = x) ∨ ((∀ e ∈ es, e.d ≠ i) ∧ lk m i = some x)
  | [], m, i, x, h => .inr ⟨by simp, h⟩
  | e :: r, m, i, x, h => by
    simp only [finM, lk] at h
    split at h
    · rename_i he; cases h; exact .inl ⟨e, by simp, he, rfl⟩
    · rename_i he
      rcases lk_finM h with ⟨e', h1, h2⟩ | ⟨h1, h2⟩
      · exact .inl ⟨e', by simp [h1], h2⟩
      · exact .inr ⟨fun e' h' => (List.mem_cons.1 h').elim (fun q => by subst q; exact he) (h1 e'), h2⟩
theorem finM_none : ∀ {es : List En} {m : List (Nat × AV)} {i : Nat}, (∀ e ∈ es, e.d ≠ i) → lk (finM es m) i = lk m i
  | [], m, i, h => rfl
  | e :: r, m, i, h => by
    simp only [finM, lk]
    rw [if_neg (h e (by simp)), finM_none (fun e' h' => h e' (by simp [h']))]
theorem finM_get : ∀ {es : List En} {m : List (Nat × AV)} {e : En}, e ∈ es → (∀ a ∈ es, ∀ b ∈ es, a.d = b.d → a = b) → lk (finM es m) e.d = some e.v
  | x :: r, m, e, he, hu => by
    simp only [finM, lk]
    split
    · rename_i h; rw [hu x (by simp) e he h]
    · rename_i h
      rcases List.mem_cons.1 he with rfl | he
      · exact (h rfl).elim
      · exact finM_get he (fun a ha b hb => hu a (by simp [ha]) b (by simp [hb]))
theorem lk_finO : ∀ {es : List En} {m : List (Nat × Nd)} {i : Nat} {x : Nd}, lk (finO es m) i = some x → (∃ e ∈ es, lk e.o i = some x) ∨ lk m i = some x
  | [], m, i, x, h => .inr h
  | e :: r, m, i, x, h => by
    simp only [finO] at h
    rw [lk_append] at h
    split at h
    · rename_i y hy; cases h; exact .inl ⟨e, by simp, hy⟩
    · rcases lk_finO h with ⟨e', h1, h2⟩ | h1
      · exact .inl ⟨e', by simp [h1], h2⟩
      · exact .inr h1
theorem finO_get : ∀ {es : List En} {m : List (Nat × Nd)} {i : Nat} {x : Nd}, (∀ e ∈ es, ∀ y, lk e.o i = some y → y = x) → ((∃ e ∈ es, lk e.o i = some x) ∨ lk m i = some x) → lk (finO es m) i = some x
  | [], m, i, x, _, h => h.elim (fun ⟨e, he, _⟩ => by cases he) id
  | e :: r, m, i, x, hu, h => by
    simp only [finO]
    rw [lk_append]
    split
    · rename_i y hy; rw [hu e (by simp) y hy]
    · rename_i hy
      refine finO_get (fun e' h' => hu e' (by simp [h'])) ?_
      rcases h with ⟨e', he, h2⟩ | h
      · rcases List.mem_cons.1 he with rfl | he
        · rw [hy] at h2; cases h2
        · exact .inl ⟨e', he, h2⟩
      · exact .inr h
theorem fltM_lk {ds : List Nat} : ∀ {m : List (Nat × AV)} {i : Nat} {x : AV}, lk (fltM ds m) i = some x → ds.contains i = false ∧ lk m i = some x
  | [], i, x, h => by simp [fltM, lk] at h
  | p :: r, i, x, h => by
    obtain ⟨j, y⟩ := p
    simp only [fltM, memN_eq] at h
    cases hc : ds.contains j
    · rw [hc] at h
      simp only [cond_false, lk] at h
      split at h
      · rename_i e; subst e; exact ⟨hc, by simp [lk, h]⟩
      · rename_i e
        obtain ⟨h1, h2⟩ := fltM_lk h
        exact ⟨h1, by simp [lk, e, h2]⟩
    · rw [hc] at h
      simp only [cond_true] at h
      obtain ⟨h1, h2⟩ := fltM_lk h
      refine ⟨h1, ?_⟩
      simp only [lk]
      rw [if_neg]
      · exact h2
      · rintro rfl; rw [hc] at h1; cases h1
theorem fltM_get {ds : List Nat} : ∀ {m : List (Nat × AV)} {i : Nat}, ds.contains i = false → lk (fltM ds m) i = lk m i
  | [], i, h => rfl
  | p :: r, i, h => by
    obtain ⟨j, y⟩ := p
    simp only [fltM, memN_eq, lk]
    cases hc : ds.contains j
    · simp only [cond_false, lk, fltM_get (m := r) h]
    · simp only [cond_true]
      rw [if_neg (by rintro rfl; rw [hc] at h; cases h), fltM_get h]
end Go.AM
/- The abstract machine, 22: regions that draw their order, where what allocates is not ordered: the law. -/
namespace Go.AM
open Go
def lstU (P : Program) (G : List (Nat × List Value)) (R : AS) : Op → Option (Prop × TypeId × Nat × Nat × List (List AV))
  | .buildSlice T len parts => match tyOf P T, evs R G (parts.toList.map (·.2)) with
    | some ⟨.slice e, _, _, _⟩, some c => match tyOf P e with
      | some ⟨_, sz, _, some _⟩ => match elsL sz 0 (parts.toList.map (·.1)) c with
        | some els => some (pureL c = true ∧ len = els.length ∧ len * sz ≤ 16777216, e, sz, len, els)
        | none => none
      | _ => none
    | _, _ => none
  | _ => none
def CallU (P : Program) (G : List (Nat × List Value)) (R : AS) (g : Nat) (xs : List AV) (r k : Nat) (kont : AV → List (Nat × Nd) → Prop) : Prop :=
  ∃ ys res os, Con P G g ys [] 0 (Is res os k) No ∧ borL R xs = some ys ∧ PT res ∧ (∀ p ∈ os, PTNd p.2) ∧ (∀ p ∈ os, p.1 < k) ∧ (k = 0 → ren (· + R.n) res = ren (· + r) res) ∧ (0 < k → ren (by_ (rho R.n r k)) (ren (· + r) res) = ren (· + R.n) res ∧ mapO (by_ (rho R.n r k)) (shO r os) = shO R.n os) ∧ kont (ren (· + r) res) (shO r os)
/-- What an operation makes, with its numbers from r on. -/
def MakesU (P : Program) (E : Env) (R : AS) (op : Op) (r k : Nat) (kont : AV → List (Nat × Nd) → Prop) : Prop :=
  match op with
  | .buildSlice T len parts => match lstU P E.G R (.buildSlice T len parts) with
    | some (c, e, sz, len, els) => c ∧ k = 1 ∧ kont (.s r 0 len) [(r, .lst e sz els)]
    | none => False
  | .alloc T => match tyOf P T with
    | some ⟨_, _, _, some zs⟩ => k = 1 ∧ kont (.p r 0 0) [(r, .box T (zs.map .r))]
    | _ => False
  | .call { callee := .value f, args, .. } => match ev R E.G f, evs R E.G args.toList with
    | some (.fn g caps), some xs => CallU P E.G R g (xs ++ caps) r k kont
    | _, _ => False
  | op => match qv P E.G R op with
    | some v => k = 0 ∧ kont v []
    | none => False
def fixO (f : Nat → Nat) : List (Nat × Nd) → Prop
  | [] => True
  | x :: r => renNd f x.2 = x.2 ∧ fixO f r
theorem fixO_mem {f : Nat → Nat} : ∀ {o : List (Nat × Nd)}, fixO f o → ∀ x ∈ o, renNd f x.2 = x.2
  | y :: r, h, x, hx => by
    rcases List.mem_cons.1 hx with rfl | hx
    · exact h.1
    · exact fixO_mem h.2 x hx
def fixU (M n0 : Nat) : List (Nat × Nat) → AV → List (Nat × Nd) → Prop
  | [], _, _ => True
  | q :: r, v, o => (ren (by_ (rho M (n0 + q.1) q.2)) v = v ∧ fixO (by_ (rho M (n0 + q.1) q.2)) o) ∧ fixU M n0 r v o
theorem fixU_mem {M n0 : Nat} : ∀ {l : List (Nat × Nat)} {v : AV} {o : List (Nat × Nd)} {q : Nat × Nat}, fixU M n0 l v o → q ∈ l → ren (by_ (rho M (n0 + q.1) q.2)) v = v ∧ ∀ x ∈ o, renNd (by_ (rho M (n0 + q.1) q.2)) x.2 = x.2
  | q :: r, v, o, q', h, hq => by
    rcases List.mem_cons.1 hq with rfl | hq
    · exact ⟨h.1.1, fixO_mem h.1.2⟩
    · exact fixU_mem h.2 hq
def exU (P : Program) (E : Env) (N : Nat) (ds : List (Option Nat)) (kp : AV → AS → Prop) (tail : List Oper) (n0 : Nat) (bs : AS) : List PU → List Oper → Nat → List En → (AS → Prop) → Prop
  | _, [], _, es, K => ex P E N ds kp tail (stE bs es) K
  | [], _ :: _, _, _, _ => False
  | p :: pl, o :: rest, j, es, K => o.guard = none ∧ match o.dst with
    | none => False
    | some d => MakesU P E (stE bs (fltE p.anc es)) o.op (n0 + p.r) p.k (fun v oo => fixU bs.n n0 p.chk v oo ∧ exU P E N ds kp tail n0 bs pl rest (j + 1) (⟨j, d, v, oo⟩ :: es) K)
section
variable {P : Program} {E : Env} {N : Nat}
structure PropE (P : Program) (E : Env) (N : Nat) (bs : AS) (n0 : Nat) (L : List En) (j : Nat) (o : Oper) (p : PU) (e : En) : Prop where
  i : e.i = j
  g : o.guard = none
  d : o.dst = some e.d
  fr : ∃ vM oM, FreshW P E N (stE bs (fltE p.anc (L.take j).reverse)) o vM oM p.k ∧ (p.k = 0 → vM = e.v ∧ oM = e.o) ∧ (0 < p.k → vM = ren (by_ (rho bs.n (n0 + p.r) p.k)) e.v ∧ oM = mapO (by_ (rho bs.n (n0 + p.r) p.k)) e.o)
  fix : fixU bs.n n0 p.chk e.v e.o
  keys : ∀ x ∈ e.o, n0 + p.r ≤ x.1 ∧ x.1 < n0 + p.r + p.k
theorem renL_r (f : Nat → Nat) : ∀ zs : List Value, renL f (zs.map AV.r) = zs.map AV.r
  | [] => rfl
  | x :: r => by simp only [List.map_cons, renL, ren, renL_r f r]
theorem makes_out {R : AS} {o : Oper} {r k : Nat} {kont : AV → List (Nat × Nd) → Prop} (hd : ∀ i, o.dst = some i → i < N) (hr : r + k ≤ R.n) (h : MakesU P E R o.op r k kont) :
    ∃ v oo vM oM, kont v oo ∧ FreshW P E N R o vM oM k ∧ (k = 0 → vM = v ∧ oM = oo) ∧ (0 < k → vM = ren (by_ (rho R.n r k)) v ∧ oM = mapO (by_ (rho R.n r k)) oo) ∧ ∀ x ∈ oo, r ≤ x.1 ∧ x.1 < r + k := by
  obtain ⟨dst, op, ty, pos, aft, gd⟩ := o
  simp only at h hd
  unfold MakesU at h
  split at h
  · rename_i T len parts
    split at h
    · rename_i c e sz len' els hl
      obtain ⟨hc, rfl, hk⟩ := h
      simp only [lstU] at hl
      split at hl
      · rename_i e1 s1 b1 z1 c1 hT he
        split at hl
        · rename_i k2 sz2 b2 z2 hTe
          split at hl
          · rename_i els2 hels
            simp only [Option.some.injEq, Prod.mk.injEq] at hl
            obtain ⟨rfl, rfl, rfl, rfl, rfl⟩ := hl
            refine ⟨_, _, _, _, hk, fresh_list hd rfl hT hTe he hc.1 hels hc.2, fun h0 => (by cases h0), fun _ => ?_, fun x hx => ?_⟩
            · have e1 : by_ (rho R.n r 1) r = R.n := by rw [by_rho (by omega)]; simp
              simp [ren, mapO, renNd, e1]
            · simp only [List.mem_singleton] at hx; subst hx; exact ⟨Nat.le_refl _, by simp⟩
          · cases hl
        · cases hl
      · cases hl
    · exact h.elim
  · rename_i T
    split at h
    · rename_i k1 s1 b1 zs hT
      obtain ⟨rfl, hk⟩ := h
      refine ⟨_, _, _, _, hk, fresh_alloc hd rfl hT, fun h0 => (by cases h0), fun _ => ?_, fun x hx => ?_⟩
      · have e1 : by_ (rho R.n r 1) r = R.n := by rw [by_rho (by omega)]; simp
        simp [ren, mapO, renNd, e1, renL_r]
      · simp only [List.mem_singleton] at hx; subst hx; exact ⟨Nat.le_refl _, by simp⟩
    · exact h.elim
  · rename_i f args ats
    split at h
    · rename_i g caps xs hf hx
      obtain ⟨ys, res, os, hc, hb, hp, hp', hkeys, e1, e2, hk⟩ := h
      refine ⟨_, _, _, _, hk, fresh_call hd rfl hf hx hc hb hp hp', fun h0 => ?_, fun h0 => ⟨(e2 h0).1.symm, (e2 h0).2.symm⟩, fun x hx => ?_⟩
      · subst h0
        have ho : os = [] := by
          cases os with
          | nil => rfl
          | cons p r => exact absurd (hkeys p (by simp)) (by omega)
        subst ho
        exact ⟨e1 rfl, rfl⟩
      · simp only [shO, List.mem_map] at hx
        obtain ⟨p, hp1, rfl⟩ := hx
        have := hkeys p hp1
        simp only; omega
    · exact h.elim
  · rename_i hq
    split at h
    · rename_i v hv
      obtain ⟨rfl, hk⟩ := h
      exact ⟨v, [], v, [], hk, fresh_q hd hv, fun _ => ⟨rfl, rfl⟩, fun h0 => (by omega), fun x hx => by cases hx⟩
    · exact h.elim
theorem exU_out {ds : List (Option Nat)} {kp : AV → AS → Prop} {tail : List Oper} {n0 : Nat} {bs : AS} {K : AS → Prop} : ∀ {ops : List Oper} {pl : List PU} {j : Nat} {es : List En}, es.length = j → (∀ o ∈ ops, ∀ i, o.dst = some i → i < N) → (∀ p ∈ pl, n0 + p.r + p.k ≤ bs.n) →
    exU P E N ds kp tail n0 bs pl ops j es K → ∃ L : List En, L.take j = es.reverse ∧ L.length = j + ops.length ∧ (∀ t, t < ops.length → ∃ o p e, ops[t]? = some o ∧ pl[t]? = some p ∧ L[j + t]? = some e ∧ PropE P E N bs n0 L (j + t) o p e) ∧ ex P E N ds kp tail (stE bs L.reverse) K
  | [], pl, j, es, hj, _, _, h => by
    have h' : ex P E N ds kp tail (stE bs es) K := by cases pl <;> exact h
    refine ⟨es.reverse, List.take_of_length_le (by rw [List.length_reverse, hj]; exact Nat.le_refl _), by simp [hj], fun t ht => by simp at ht, ?_⟩
    rw [List.reverse_reverse]; exact h'
  | o :: rest, [], j, es, hj, _, _, h => h.elim
  | o :: rest, p :: pl, j, es, hj, hd, hp, h => by
    simp only [exU] at h
    obtain ⟨hg, h⟩ := h
    split at h
    · exact h.elim
    · rename_i d hdst
      obtain ⟨v, oo, vM, oM, ⟨hfix, hrest⟩, hfr, hk0, hk1, hkeys⟩ := makes_out (N := N) (R := stE bs (fltE p.anc es)) (hd o (by simp)) (hp p (by simp)) h
      obtain ⟨L, h1, h2, h3, h4⟩ := exU_out (by simp [hj]) (fun o' ho' => hd o' (by simp [ho'])) (fun p' hp' => hp p' (by simp [hp'])) hrest
      have hLj : L[j]? = some ⟨j, d, v, oo⟩ := by
        have : (L.take (j + 1))[j]? = L[j]? := List.getElem?_take_of_lt (by omega)
        rw [← this, h1]; simp [hj]
      have htk : L.take j = es.reverse := by
        have : (L.take (j + 1)).take j = L.take j := by rw [List.take_take]; congr 1; omega
        rw [← this, h1]; simp [hj]
      refine ⟨L, htk, by simp [h2]; omega, fun t ht => ?_, h4⟩
      cases t with
      | zero =>
        refine ⟨o, p, ⟨j, d, v, oo⟩, rfl, rfl, hLj, ⟨rfl, hg, hdst, ⟨vM, oM, ?_, hk0, hk1⟩, hfix, hkeys⟩⟩
        rw [Nat.add_zero, htk, List.reverse_reverse]; exact hfr
      | succ t =>
        obtain ⟨o', p', e', q1, q2, q3, q4⟩ := h3 t (by simpa using ht)
        have e1 : j + 1 + t = j + (t + 1) := by omega
        rw [e1] at q3 q4
        exact ⟨o', p', e', by simpa using q1, by simpa using q2, q3, q4⟩
/-- What stands in the head is waited for, but for stragglers. -/
def sinkZ (ops : Array Oper) (n : Nat) (zs : List Nat) : Bool :=
  (List.range n).all fun i => zs.contains i || (List.range (n + 1)).any fun j => decide (i < j) && !zs.contains j && Region.waitsFor .any ops j i
def isExt : Op → Bool
  | .extract _ _ => true
  | _ => false
def isSel : Op → Bool
  | .select _ _ => true
  | _ => false
/-- Stragglers: they take a part of a result, and nothing else touches what they touch. -/
def okZ (ops : Array Oper) (n : Nat) (pl : List PU) (zs : List Nat) : Bool :=
  zs.isEmpty || ((zs.all fun z => decide (z < n) && match ops[z]? with
    | some oz => isExt oz.op && oz.guard.isNone && ((List.range ops.size).all fun j => j == z || (match pl[z]? with | some p => p.anc.contains j | none => false) || match ops[j]? with
      | some oj => (oj.after.toList.any fun e => Region.binds .any e && e.on == z) || oz.apart ops oj
      | none => true)
    | none => false) && (ops.toList.all fun o => !isSel o.op))
/-- A plan is right. -/
def okU (ops : Array Oper) (n : Nat) (pl : List PU) (tot : Nat) (dss : List Nat) (zs : List Nat) : Bool :=
  decide (pl.length = n) && (decide (n = ops.size) || (sinkZ ops n zs && Region.chainB .any ops n && decide (n < ops.size))) && okZ ops n pl zs &&
  ((List.range n).all fun i => match ops[i]?, pl[i]? with
    | some o, some p => (match o.dst with | some d => dss.contains d | none => false) && (o.after.toList.all fun e => !Region.binds .any e || decide (e.on < i)) &&
      (p.anc.all fun a => o.after.toList.any fun e => Region.binds .any e && (e.on == a || (match pl[e.on]? with | some q => q.anc.contains a | none => false))) &&
      decide (p.r + p.k ≤ tot) && ((List.range n).all fun h => h == i || (match ops[h]?, pl[h]? with
        | some oh, some q => !(oh.dst == o.dst) && (q.k == 0 || p.anc.contains h || p.chk.contains (q.r, q.k)) && decide (p.r + p.k ≤ q.r ∨ q.r + q.k ≤ p.r)
        | _, _ => false))
    | _, _ => false) &&
  Region.seqB .any ops (ops.size - n) n ((List.range ops.size).map fun i => decide (i < n)).toArray
theorem nodup_sub_len {α : Type} [DecidableEq α] : ∀ {l l' : List α}, l.Nodup → (∀ x ∈ l, x ∈ l') → l.length ≤ l'.length
  | [], _, _, _ => Nat.zero_le _
  | x :: r, l', h, hs => by
    obtain ⟨h1, h2⟩ := List.nodup_cons.1 h
    have hx := hs x (by simp)
    have := nodup_sub_len (l' := l'.erase x) h2 (fun y hy => (List.mem_erase_of_ne (fun e => by subst e; exact h1 hy)).2 (hs y (by simp [hy])))
    rw [List.length_erase_of_mem hx] at this
    have := List.length_pos_of_mem hx
    simp only [List.length_cons]; omega
end
end Go.AM
/- The abstract machine, 23: regions that draw their order, where what allocates is not ordered: whatever order. -/
namespace Go.AM
open Go
section
variable {P : Program} {E : Env} {N : Nat}
/-- What a plan that is right gives. -/
structure OkU (ops : Array Oper) (n : Nat) (pl : List PU) (tot : Nat) (dss : List Nat) (zs : List Nat) : Prop where
  len : pl.length = n
  le : n ≤ ops.size
  head : ∀ s, HeadInv .any ops n s → ∀ i, i < n → i ∉ zs → s.getD i true = false → ∀ j ∈ Region.ready .any ops s, j < n
  strag : ∀ z ∈ zs, z < n ∧ ∃ o, ops[z]? = some o ∧ isExt o.op = true ∧ o.guard = none ∧ ∀ (j : Nat) oj, ops[j]? = some oj → j ≠ z → (∀ p, pl[z]? = some p → j ∉ p.anc) → (∀ e ∈ oj.after, Region.binds .any e = true → e.on ≠ z) → o.apart ops oj = true
  sel : zs ≠ [] → ∀ (j : Nat) (o : Oper) cs b, ops[j]? = some o → o.op ≠ .select cs b
  dst : ∀ (i : Nat) o p, i < n → ops[i]? = some o → pl[i]? = some p → ∃ d, o.dst = some d ∧ dss.contains d = true
  back : ∀ (i : Nat) o, i < n → ops[i]? = some o → ∀ e ∈ o.after, Region.binds .any e = true → e.on < i
  anc : ∀ (i : Nat) o p, i < n → ops[i]? = some o → pl[i]? = some p → ∀ a ∈ p.anc, ∃ e ∈ o.after, Region.binds .any e = true ∧ (e.on = a ∨ ∃ q, pl[e.on]? = some q ∧ a ∈ q.anc)
  tot : ∀ (i : Nat) p, i < n → pl[i]? = some p → p.r + p.k ≤ tot
  pair : ∀ (i h : Nat) o p oh q, i < n → h < n → h ≠ i → ops[i]? = some o → pl[i]? = some p → ops[h]? = some oh → pl[h]? = some q → oh.dst ≠ o.dst ∧ (q.k = 0 ∨ h ∈ p.anc ∨ (q.r, q.k) ∈ p.chk) ∧ (p.r + p.k ≤ q.r ∨ q.r + q.k ≤ p.r)
  seq : Region.seqB .any ops (ops.size - n) n ((List.range ops.size).map fun i => decide (i < n)).toArray = true
theorem tail_waitsZ {ops : Array Oper} {n : Nat} {zs : List Nat} {listed : Array Bool} (hs : sinkZ ops n zs = true) (hc : Region.chainB .any ops n = true) (hn : n < ops.size) (inv : HeadInv .any ops n listed) :
    ∀ (d i : Nat), n - i = d → i < n → i ∉ zs → listed.getD i true = false → ∀ t, n ≤ t → t ∉ Region.ready .any ops listed := by
  intro d
  induction d using Nat.strongRecOn with
  | _ d ih =>
    intro i hd hi hiz hun t ht hr
    obtain ⟨_, ot, hot, hall⟩ := mem_ready.1 hr
    have htlt : t < ops.size := (Array.getElem?_eq_some_iff.1 hot).1
    by_cases htn : t = n
    · subst htn
      have h1 := List.all_eq_true.1 hs i (List.mem_range.2 hi)
      rcases Bool.or_eq_true _ _ ▸ h1 with h1 | h1
      · exact hiz (by simpa using h1)
      obtain ⟨j, hj, hj2⟩ := List.any_eq_true.1 h1
      simp only [Bool.and_eq_true, decide_eq_true_eq, Bool.not_eq_true'] at hj2
      obtain ⟨oj, hoj, e, he, hb, hon⟩ := Region.waitsFor_spec hj2.2
      have hjle : j ≤ t := by have := List.mem_range.1 hj; omega
      have hjz : j ∉ zs := by have := hj2.1.2; simpa using this
      by_cases hjt : j = t
      · subst hjt
        have : oj = ot := Option.some.inj (hoj.symm.trans hot)
        subst this
        have h2 := hall e he hb
        rw [hon, getD_both hun] at h2
        cases h2
      · cases hl : listed.getD j false with
        | true =>
          have h2 := inv.closed j oj hoj hl e he hb
          rw [hon, getD_both hun] at h2
          cases h2
        | false =>
          have hjs : j < listed.size := by rw [inv.size]; omega
          exact ih (t - j) (by omega) j rfl (by omega) hjz (getD_in hjs hl) t (Nat.le_refl _) hr
    · have h1 := List.all_eq_true.1 hc t (List.mem_range.2 htlt)
      simp only [Bool.or_eq_true, decide_eq_true_eq] at h1
      rcases h1 with h1 | h1
      · omega
      · obtain ⟨o', ho', e, he, hb, hon⟩ := Region.waitsFor_spec h1
        have : o' = ot := Option.some.inj (ho'.symm.trans hot)
        subst this
        have h2 := hall e he hb
        rw [hon, getD_both (inv.tail (t - 1) (by omega) (by omega))] at h2
        cases h2
/-- What yields whatever the world may be taken first. -/
theorem wpAny_first {P : Program} {ops : Array Oper} {Q : Exit → Act → World → Prop} {i : Nat} {oi : Oper} {v : Value} (hi : ops[i]? = some oi) (hsel : ∀ (j : Nat) (o : Oper) cs b, ops[j]? = some o → o.op ≠ .select cs b) (hQ : ∀ c a w, Q (.panic c) (a.put oi.dst v) w → Q (.panic c) a w) : ∀ (f : Nat) (s : Array Bool) (a : Act) (w : World), (∀ (j : Nat) oj, ops[j]? = some oj → j ≠ i → s.getD j true = false → (∀ e ∈ oj.after, Region.binds .any e = true → e.on ≠ i) → oi.apart ops oj = true) →
      i ∈ Region.ready .any ops s → YieldsIf P ops (fun _ => True) oi v a → wpAny P .any ops Q f (s.setIfInBounds i true) (a.put oi.dst v) w → wpAny P .any ops Q (f + 1) s a w := by
  intro f
  induction f with
  | zero =>
    intro s a w hfree hr hy H
    refine ⟨fun h => (by rw [h] at hr; cases hr), fun j hj => ?_⟩
    by_cases hji : j = i
    · subst hji; exact hy.wpOp hi trivial H
    · have := ready_mono hj hji
      rw [H.1] at this; cases this
  | succ f ih =>
    intro s a w hfree hr hy H
    refine ⟨fun h => (by rw [h] at hr; cases hr), fun j hj => ?_⟩
    by_cases hji : j = i
    · subst hji; exact hy.wpOp hi trivial H
    · have h1 := H.2 j (ready_mono hj hji)
      obtain ⟨hjun, oj, hoj, hall⟩ := mem_ready.1 hj
      have hiun := (mem_ready.1 hr).1
      have hnot : ∀ e ∈ oj.after, Region.binds .any e = true → e.on ≠ i := fun e he hb heq => by
        have h2 := hall e he hb
        rw [heq, getD_both hiun] at h2
        cases h2
      have h2 := wpOp_putIf hoj (hfree j oj hoj hji hjun hnot) (fun cs b => hsel i oi cs b hi) (fun cs b => hsel j oj cs b hoj) hQ hy h1
      refine wpOp_mono (fun a' w' h3 => ih _ a' w' (fun k ok hk hki hun hno => hfree k ok hk hki (by
        by_cases hjk : j = k
        · subst hjk; exact hjun
        · rwa [getD_set_ne true hjk] at hun) hno) (ready_mono hr (Ne.symm hji)) h3.1 ?_) h2
      rw [Array.setIfInBounds_comm _ _ hji]
      exact h3.2
theorem extract_yields {P : Program} {ops : Array Oper} {o : Oper} (ho : isExt o.op = true) (hg : o.guard = none) {a : Act} {w : World} {K : Act → World → Prop} (h : o.wp P a w K (fun _ _ _ => False)) : ∃ u, YieldsIf P ops (fun _ => True) o u a ∧ K (a.put o.dst u) w := by
  obtain ⟨d, op, ty, pos, aft, gd⟩ := o
  simp only at ho hg
  cases op with
  | extract t i =>
    unfold Oper.wp at h
    simp only [execOp] at h
    generalize hv : a.eval t = tv at h
    have key : (∃ u, ∀ w', (Instr.extract tv i).run P w' = .ok u w') ∨ (∃ e, ∀ w', (Instr.extract tv i).run P w' = .halt e w' ∧ ∀ x, e ≠ .panic x) := by
      unfold Instr.extract
      split
      · split
        · rename_i u _; exact .inl ⟨u, fun w' => rfl⟩
        · exact .inr ⟨_, fun w' => ⟨rfl, fun x hx => by cases hx⟩⟩
      · exact .inr ⟨_, fun w' => ⟨rfl, fun x hx => by cases hx⟩⟩
    rcases key with ⟨u, hu⟩ | ⟨e, he⟩
    · refine ⟨u, .inl ⟨by simp [Region.wanted, hg], fun w' _ => ?_⟩, ?_⟩
      · simp only [execOp, hv, Sem.run_bind, hu, Result.andThen_ok]; rfl
      · simp only [Sem.run_bind, hu, Result.andThen_ok] at h; exact h
    · exfalso
      simp only [Sem.run_bind, (he w).1] at h
      have h' : Oper.upon P ⟨d, .extract t i, ty, pos, aft, gd⟩ a K (fun _ _ _ => False) (.halt e w) := h
      cases e with
      | panic x => exact h'
      | _ => exact h'
  | _ => cases ho
theorem okU_spec {ops : Array Oper} {n : Nat} {pl : List PU} {tot : Nat} {dss zs : List Nat} (h : okU ops n pl tot dss zs = true) : OkU ops n pl tot dss zs := by
  simp only [okU, Bool.and_eq_true, decide_eq_true_eq] at h
  obtain ⟨⟨⟨⟨h1, h2⟩, hz⟩, h3⟩, h4⟩ := h
  have hle : n ≤ ops.size := by
    rcases Bool.or_eq_true _ _ ▸ h2 with h2 | h2
    · exact Nat.le_of_eq (of_decide_eq_true h2)
    · simp only [Bool.and_eq_true, decide_eq_true_eq] at h2; exact Nat.le_of_lt h2.2
  have key : ∀ (i : Nat) o p, i < n → ops[i]? = some o → pl[i]? = some p → _ := fun i o p hi ho hp => (by
    have := List.all_eq_true.1 h3 i (by simpa using hi)
    rw [ho, hp] at this
    exact this)
  refine ⟨h1, hle, ?_, ?_, ?_, fun i o p hi ho hp => ?_, fun i o hi ho e he hb => ?_, fun i o p hi ho hp a ha => ?_, fun i p hi hp => ?_, fun i h o p oh q hi hh hne ho hp hoh hq => ?_, h4⟩
  · intro s inv i hi hiz hs j hj
    rcases Bool.or_eq_true _ _ ▸ h2 with b2 | b2
    · have := of_decide_eq_true b2
      obtain ⟨_, oj, hoj, _⟩ := mem_ready.1 hj
      rw [this]; exact (Array.getElem?_eq_some_iff.1 hoj).1
    · simp only [Bool.and_eq_true, decide_eq_true_eq] at b2
      by_cases h : j < n
      · exact h
      · exact absurd hj (tail_waitsZ b2.1.1 b2.1.2 b2.2 inv _ i rfl hi hiz hs j (by omega))
  · intro z hzm
    rcases Bool.or_eq_true _ _ ▸ hz with h0 | h0
    · have : zs = [] := by simpa using h0
      rw [this] at hzm; cases hzm
    · simp only [Bool.and_eq_true] at h0
      have h5 := List.all_eq_true.1 h0.1 z hzm
      simp only [Bool.and_eq_true, decide_eq_true_eq] at h5
      obtain ⟨h6, h7⟩ := h5
      refine ⟨h6, ?_⟩
      split at h7
      · rename_i oz hoz
        simp only [Bool.and_eq_true] at h7
        obtain ⟨⟨h8, h9⟩, h10⟩ := h7
        refine ⟨oz, hoz, h8, by simpa using h9, fun j oj hj hne hna hno => ?_⟩
        have h11 := List.all_eq_true.1 h10 j (by have := (Array.getElem?_eq_some_iff.1 hj).1; simpa using this)
        rw [hj] at h11
        simp only [Bool.or_eq_true, beq_iff_eq] at h11
        rcases h11 with (h11 | h11) | h11 | h11
        · exact (hne h11).elim
        · split at h11
          · rename_i p hp; exact (hna p hp (by simpa using h11)).elim
          · cases h11
        · obtain ⟨e, he, h12⟩ := List.any_eq_true.1 h11
          simp only [Bool.and_eq_true, beq_iff_eq] at h12
          exact (hno e (by simpa using he) h12.1 h12.2).elim
        · exact h11
      · cases h7
  · intro hne j o cs b hj hsel
    rcases Bool.or_eq_true _ _ ▸ hz with h0 | h0
    · exact hne (by simpa using h0)
    · simp only [Bool.and_eq_true] at h0
      have := List.all_eq_true.1 h0.2 o (by have := Array.mem_of_getElem? hj; simpa using this)
      rw [hsel] at this; cases this
  · have := key i o p hi ho hp
    simp only [Bool.and_eq_true] at this
    obtain ⟨⟨⟨⟨g1, _⟩, _⟩, _⟩, _⟩ := this
    split at g1
    · rename_i d hd; exact ⟨d, hd, g1⟩
    · cases g1
  · obtain ⟨p, hp⟩ : ∃ p, pl[i]? = some p := ⟨pl[i]'(by omega), by simp⟩
    have := key i o p hi ho hp
    simp only [Bool.and_eq_true] at this
    obtain ⟨⟨⟨⟨_, g2⟩, _⟩, _⟩, _⟩ := this
    have := List.all_eq_true.1 g2 e (by simpa using he)
    simpa [hb] using this
  · have := key i o p hi ho hp
    simp only [Bool.and_eq_true] at this
    obtain ⟨⟨⟨⟨_, _⟩, g3⟩, _⟩, _⟩ := this
    obtain ⟨e, he, h5⟩ := List.any_eq_true.1 (List.all_eq_true.1 g3 a ha)
    simp only [Bool.and_eq_true, Bool.or_eq_true, beq_iff_eq] at h5
    refine ⟨e, by simpa using he, h5.1, h5.2.imp id fun h6 => ?_⟩
    split at h6
    · rename_i q hq; exact ⟨q, hq, by simpa using h6⟩
    · cases h6
  · obtain ⟨o, ho⟩ : ∃ o, ops[i]? = some o := ⟨ops[i]'(by omega), by simp⟩
    have := key i o p hi ho hp
    simp only [Bool.and_eq_true, decide_eq_true_eq] at this
    exact this.1.2
  · have := key i o p hi ho hp
    simp only [Bool.and_eq_true, decide_eq_true_eq] at this
    have := List.all_eq_true.1 this.2 h (by simpa using hh)
    rw [hoh, hq] at this
    simp only [Bool.or_eq_true, Bool.and_eq_true, beq_iff_eq, decide_eq_true_eq, Bool.not_eq_true', beq_eq_false_iff_ne, ne_eq] at this
    obtain ⟨⟨g1, g2⟩, g3⟩ := this.resolve_left hne
    refine ⟨g1, ?_, g3⟩
    rcases g2 with (g2 | g2) | g2
    · exact .inl g2
    · exact .inr (.inl (by simpa using g2))
    · exact .inr (.inr (by simpa using g2))
theorem lk_mapO_get {φ : Nat → Nat} : ∀ {o : List (Nat × Nd)} {i : Nat} {x : Nd}, (∀ p ∈ o, φ p.1 = φ i → p.1 = i) → lk o i = some x → lk (mapO φ o) (φ i) = some (renNd φ x)
  | [], i, x, _, h => by simp [lk] at h
  | (j, y) :: r, i, x, hi, h => by
    simp only [lk] at h
    simp only [mapO, List.map_cons, lk]
    split at h
    · rename_i e; subst e; cases h; rw [if_pos rfl]
    · rename_i e
      rw [if_neg (fun e2 => e (hi (j, y) (by simp) e2))]
      exact lk_mapO_get (fun p hp => hi p (by simp [hp])) h
theorem mapO_none {φ : Nat → Nat} {o : List (Nat × Nd)} {i : Nat} (h : ∀ p ∈ o, φ p.1 ≠ i) : lk (mapO φ o) i = none := by
  induction o with
  | nil => rfl
  | cons p r ih =>
    obtain ⟨j, y⟩ := p
    simp only [mapO, List.map_cons, lk]
    rw [if_neg (h (j, y) (by simp))]
    exact ih (fun p hp => h p (by simp [hp]))
theorem anyU {ops : Array Oper} {n : Nat} {pl : List PU} {tot : Nat} {dss zs : List Nat} {L : List En} {bs : AS} {n0 : Nat} {Q : Exit → Act → World → Prop} {g : Nat} (ok : OkU ops n pl tot dss zs) (hQ : ∀ c a d v w, Q (.panic c) (a.put d v) w → Q (.panic c) a w) (hL : L.length = n) (hM : bs.n = n0 + tot) (hbig : bs.n + tot ≤ 1000000000) (hE : E.th0.length ≤ n0)
    (hprop : ∀ j, j < n → ∃ o p e, ops[j]? = some o ∧ pl[j]? = some p ∧ L[j]? = some e ∧ PropE P E N bs n0 L j o p e)
    (hbm : ∀ i x, lk bs.m i = some x → dss.contains i = false ∧ ∀ f : Nat → Nat, (∀ i, i < n0 → f i = i) → ren f x = x) (hbo : ∀ i nd, lk bs.o i = some nd → i < n0 ∧ ∀ f : Nat → Nat, (∀ i, i < n0 → f i = i) → renNd f nd = nd)
    (hend : ∀ lD th z a w, (∀ e ∈ lD, L[e.i]? = some e) → (∀ e ∈ L, e ∈ lD) → Sim E N (stE bs lD) th z a w → wpAny P .any ops Q g ((List.range ops.size).map fun i => decide (i < n)).toArray a w) :
    ∀ (f : Nat) (lD : List En) (s : Array Bool) (th : List NLoc) (z : Zone) (a : Act) (w : World), HeadInv .any ops n s → f + lD.length = n → (∀ e ∈ lD, e.i < n ∧ L[e.i]? = some e) → (lD.map (·.i)).Nodup → (∀ i, i < n → (s.getD i false = true ↔ ∃ e ∈ lD, e.i = i)) →
      (∀ e ∈ lD, ∀ p, pl[e.i]? = some p → ∀ x ∈ p.anc, ∃ e' ∈ lD, e'.i = x) → Sim E N (stE bs lD) th z a w → wpAny P .any ops Q (f + g) s a w := by
  have same : ∀ {a b : En}, L[a.i]? = some a → L[b.i]? = some b → a.i = b.i → a = b := fun {a b} h1 h2 h => by rw [h] at h1; exact Option.some.inj (h1.symm.trans h2)
  have range : (List.range n).Nodup := List.nodup_range
  intro f
  induction f with
  | zero =>
    intro lD s th z a w inv hlen hmem hnd hs hanc hsim
    have hall : ∀ i, i < n → ∃ e ∈ lD, e.i = i := by
      intro i hi
      apply Classical.byContradiction
      intro hno
      have h1 : (i :: lD.map (·.i)).Nodup := List.nodup_cons.2 ⟨fun h => by
        obtain ⟨e, he, rfl⟩ := List.mem_map.1 h
        exact hno ⟨e, he, rfl⟩, hnd⟩
      have := nodup_sub_len (l' := List.range n) h1 (fun x hx => by
        rcases List.mem_cons.1 hx with rfl | hx
        · simpa using hi
        · obtain ⟨e, he, rfl⟩ := List.mem_map.1 hx
          simpa using (hmem e he).1)
      simp at this; omega
    have hsF : s = ((List.range ops.size).map fun i => decide (i < n)).toArray := by
      apply Array.ext
      · simp [inv.size]
      · intro i h1 h2
        simp only [List.getElem_toArray, List.getElem_map, List.getElem_range]
        by_cases hi : i < n
        · have := (hs i hi).2 (hall i hi)
          simp [h1] at this
          simp [this, hi]
        · have := inv.tail i (by omega) (by rw [← inv.size]; exact h1)
          simp [h1] at this
          simp [this, hi]
    rw [Nat.zero_add, hsF]
    refine hend lD th z a w (fun e he => (hmem e he).2) (fun e he => ?_) hsim
    obtain ⟨i, hi, rfl⟩ := List.mem_iff_getElem.1 he
    rw [hL] at hi
    obtain ⟨e', he', h2⟩ := hall i hi
    obtain ⟨o, p, e, _, _, q3, q4⟩ := hprop i hi
    have h3 := (hmem e' he').2
    rw [h2] at h3
    have : L[i]'(by omega) = e' := by
      have := List.getElem?_eq_some_iff.1 h3
      exact this.2
    rw [this]; exact he'
  | succ f ih =>
    intro lD s th z a w inv hlen hmem hnd hs hanc hsim
    have hund : ∀ i, i < n → (¬ ∃ e ∈ lD, e.i = i) → s.getD i true = false := by
      intro i hi hno
      refine getD_in (by rw [inv.size]; have := ok.le; omega) ?_
      cases hv : s.getD i false with
      | false => rfl
      | true => exact (hno ((hs i hi).1 hv)).elim
    have hready : Region.ready .any ops s ≠ [] := by
      have hex : ∃ i, i < n ∧ ¬ ∃ e ∈ lD, e.i = i := by
        apply Classical.byContradiction
        intro hno
        have := nodup_sub_len (l' := lD.map (·.i)) range (fun i hi => by
          have hi : i < n := by simpa using hi
          have : ∃ e ∈ lD, e.i = i := Classical.byContradiction fun h => hno ⟨i, hi, h⟩
          obtain ⟨e, he, rfl⟩ := this
          exact List.mem_map_of_mem he)
        simp at this; omega
      obtain ⟨i0, hi0⟩ := hex
      obtain ⟨i, ⟨hi, hno⟩, hmin⟩ := exists_min (fun i => i < n ∧ ¬ ∃ e ∈ lD, e.i = i) i0 hi0
      obtain ⟨o, p, e, q1, q2, q3, q4⟩ := hprop i hi
      have : i ∈ Region.ready .any ops s := mem_ready.2 ⟨hund i hi hno, o, q1, fun e he hb => by
        have hlt := ok.back i o hi q1 e he hb
        refine (hs e.on (by omega)).2 (Classical.byContradiction fun h => ?_)
        have := hmin e.on ⟨by omega, h⟩
        omega⟩
      intro h; rw [h] at this; cases this
    rw [show f + 1 + g = (f + g) + 1 by omega]
    have body : ∀ (Q2 : Exit → Act → World → Prop) (i : Nat), i ∈ Region.ready .any ops s → i < n → ∃ o', ops[i]? = some o' ∧ o'.guard = none ∧ o'.wp P a w (fun a' w' => wpAny P .any ops Q (f + g) (s.setIfInBounds i true) a' w') Q2 := by
      intro Q2 i hir hi
      have hun := (mem_ready.1 hir).1
      obtain ⟨_, o', ho', hdeps⟩ := mem_ready.1 hir
      obtain ⟨o, p, e, q1, q2, q3, ⟨ei, eg, ed, ⟨vM, oM, hfr, hk0, hk1⟩, efix, ekeys⟩⟩ := hprop i hi
      obtain rfl : o' = o := Option.some.inj (ho'.symm.trans q1)
      have hnot : ¬ ∃ e ∈ lD, e.i = i := fun h => by
        have := (hs i hi).2 h
        rw [getD_both hun] at this; cases this
      have hancD : ∀ x ∈ p.anc, ∃ e' ∈ lD, e'.i = x := by
        intro x hx
        obtain ⟨ed', he', hb, h6⟩ := ok.anc i o' p hi q1 q2 x hx
        have hdone := hdeps ed' he' hb
        have hlt := ok.back i o' hi q1 ed' he' hb
        obtain ⟨e1, h7, h8⟩ := (hs ed'.on (by omega)).1 hdone
        rcases h6 with rfl | ⟨q, hq, hxq⟩
        · exact ⟨e1, h7, h8⟩
        · exact hanc e1 h7 q (by rw [h8]; exact hq) x hxq
      have epair : ∀ e1 ∈ lD, ∃ o1 p1, ops[e1.i]? = some o1 ∧ pl[e1.i]? = some p1 ∧ PropE P E N bs n0 L e1.i o1 p1 e1 ∧ e1.i ≠ i := by
        intro e1 he1
        obtain ⟨h1, h2⟩ := hmem e1 he1
        obtain ⟨o1, p1, e1', r1, r2, r3, r4⟩ := hprop e1.i h1
        rw [h2] at r3; cases r3
        exact ⟨o1, p1, r1, r2, r4, fun h => hnot ⟨e1, he1, h⟩⟩
      have hdist : ∀ a ∈ lD, ∀ b ∈ lD, a.d = b.d → a = b := by
        intro a ha b hb hab
        obtain ⟨o1, p1, r1, r2, r3, _⟩ := epair a ha
        obtain ⟨o2, p2, t1, t2, t3, _⟩ := epair b hb
        by_cases hne : b.i = a.i
        · exact same (hmem a ha).2 (hmem b hb).2 hne.symm
        · have := (ok.pair a.i b.i o1 p1 o2 p2 (hmem a ha).1 (hmem b hb).1 hne r1 r2 t1 t2).1
          rw [t3.d, r3.d, hab] at this; exact (this rfl).elim
      have hle : (stE bs (fltE p.anc (L.take i).reverse)).le (stE bs lD) := by
        have hin : ∀ e1 ∈ fltE p.anc (L.take i).reverse, e1 ∈ lD := by
          intro e1 he1
          obtain ⟨h1, h2⟩ := fltE_mem.1 he1
          obtain ⟨e2, h3, h4⟩ := hancD e1.i (by simpa using h2)
          obtain ⟨k, hk, hk2⟩ := List.mem_iff_getElem.1 (List.mem_of_mem_take (List.mem_reverse.1 h1))
          have hkn : k < n := by omega
          obtain ⟨_, _, e3, _, _, u3, u4⟩ := hprop k hkn
          have : e3 = e1 := by
            have := List.getElem?_eq_some_iff.1 u3
            exact this.2.symm.trans hk2
          subst this
          have hl : L[e3.i]? = some e3 := by rw [u4.i]; exact u3
          rw [same hl (hmem e2 h3).2 h4.symm]; exact h3
        have hbase : ∀ e1 ∈ lD, dss.contains e1.d = true := by
          intro e1 he1
          obtain ⟨o1, p1, r1, r2, r3, _⟩ := epair e1 he1
          obtain ⟨d, h1, h2⟩ := ok.dst e1.i o1 p1 (hmem e1 he1).1 r1 r2
          rw [r3.d] at h1; cases h1; exact h2
        refine ⟨fun j x hj => ?_, fun j x hj => ?_⟩
        · rcases lk_finM hj with ⟨e1, h1, rfl, rfl⟩ | ⟨_, h2⟩
          · exact finM_get (hin e1 h1) hdist
          · show lk (finM lD bs.m) j = some x
            rw [finM_none (fun e1 he1 h => by have := hbase e1 he1; rw [h, (hbm j x h2).1] at this; cases this)]; exact h2
        · refine finO_get (fun e1 he1 y hy => ?_) ?_
          · obtain ⟨o1, p1, r1, r2, r3, _⟩ := epair e1 he1
            have hk1 := r3.keys _ (lk_mem hy)
            rcases lk_finO hj with ⟨e2, h1, h2⟩ | h2
            · obtain ⟨o2, p2, t1, t2, t3, _⟩ := epair e2 (hin e2 h1)
              have hk2 := t3.keys _ (lk_mem h2)
              by_cases hne : e2.i = e1.i
              · rw [same (hmem e2 (hin e2 h1)).2 (hmem e1 he1).2 hne, hy] at h2; exact Option.some.inj h2
              · have := (ok.pair e1.i e2.i o1 p1 o2 p2 (hmem e1 he1).1 (hmem e2 (hin e2 h1)).1 hne r1 r2 t1 t2).2.2
                simp only at hk1 hk2; omega
            · have := (hbo j x h2).1
              simp only at hk1; omega
          · rcases lk_finO hj with ⟨e2, h1, h2⟩ | h2
            · exact .inl ⟨e2, hin e2 h1, h2⟩
            · exact .inr h2
      have hptot := ok.tot i p hi q2
      refine ⟨o', q1, eg, hfr (stE bs lD) th z a w hle rfl hsim _ _ (fun th' z' a' w' hS => ?_)⟩
      have hnext : ∃ th'', Sim E N (stE bs (e :: lD)) th'' z' a' w' := by
        rw [ed] at hS
        by_cases hk : p.k = 0
        · obtain ⟨rfl, rfl⟩ := hk0 hk
          rw [hk] at hS
          exact ⟨th', hS⟩
        · obtain ⟨rfl, rfl⟩ := hk1 (by omega)
          refine ⟨_, hS.renL (rho bs.n (n0 + p.r) p.k) (rho_lt (by omega)) (by show bs.n + p.k ≤ 1000000000; omega) ?_ ?_ (by rw [rho_len]; rfl) ?_ rho_nodup⟩
          · intro j x hj
            have hj' : lk ((e.d, e.v) :: finM lD bs.m) j = some x := hj
            show lk ((e.d, ren (by_ (rho bs.n (n0 + p.r) p.k)) e.v) :: finM lD bs.m) j = _
            simp only [lk] at hj' ⊢
            split at hj'
            · rename_i h; cases hj'; rw [if_pos h]
            · rename_i h
              rw [if_neg h, hj']
              congr 1
              rcases lk_finM hj' with ⟨e1, h1, _, rfl⟩ | ⟨_, h2⟩
              · obtain ⟨o1, p1, r1, r2, r3, r4⟩ := epair e1 h1
                rcases (ok.pair e1.i i o1 p1 o' p (hmem e1 h1).1 hi (Ne.symm r4) r1 r2 q1 q2).2.1 with h5 | h5 | h5
                · exact (hk h5).elim
                · exact (hnot (hanc e1 h1 p1 r2 i h5)).elim
                · exact (fixU_mem r3.fix h5).1.symm
              · exact ((hbm j x h2).2 _ (fun i hi => by rw [by_rho (by omega), if_neg (by omega)])).symm
          · intro j nd hj
            have hj' : lk (e.o ++ finO lD bs.o) j = some nd := hj
            have eqS : ∀ j, lk (({ stE bs lD with o := mapO (by_ (rho bs.n (n0 + p.r) p.k)) e.o ++ (stE bs lD).o, n := (stE bs lD).n + p.k }.put (some e.d) (ren (by_ (rho bs.n (n0 + p.r) p.k)) e.v)).o) j = lk (mapO (by_ (rho bs.n (n0 + p.r) p.k)) e.o ++ finO lD bs.o) j := fun _ => rfl
            rw [lk_append] at hj'
            split at hj'
            · rename_i y hy; cases hj'
              have hkk := ekeys _ (lk_mem hy)
              simp only at hkk
              refine ⟨bs.n + (j - (n0 + p.r)), by rw [rho_get (by omega), if_pos (by omega)], ?_⟩
              have e1 : by_ (rho bs.n (n0 + p.r) p.k) j = bs.n + (j - (n0 + p.r)) := by rw [by_rho (by omega), if_pos (by omega)]
              rw [eqS, lk_append, ← e1, lk_mapO_get (fun q hq h => by
                have := ekeys q hq
                rw [by_rho (by omega), by_rho (by omega), if_pos (by omega), if_pos (by omega)] at h
                omega) hy]
            · rename_i hy
              have hjn : j < bs.n ∧ ¬ (n0 + p.r ≤ j ∧ j < n0 + p.r + p.k) ∧ renNd (by_ (rho bs.n (n0 + p.r) p.k)) nd = nd := by
                rcases lk_finO hj' with ⟨e1, h1, h2⟩ | h2
                · obtain ⟨o1, p1, r1, r2, r3, r4⟩ := epair e1 h1
                  have hk1 := r3.keys _ (lk_mem h2)
                  have ht1 := ok.tot e1.i p1 (hmem e1 h1).1 r2
                  simp only at hk1
                  have hp := ok.pair e1.i i o1 p1 o' p (hmem e1 h1).1 hi (Ne.symm r4) r1 r2 q1 q2
                  refine ⟨by omega, by have := hp.2.2; omega, ?_⟩
                  rcases hp.2.1 with h5 | h5 | h5
                  · exact (hk h5).elim
                  · exact (hnot (hanc e1 h1 p1 r2 i h5)).elim
                  · exact (fixU_mem r3.fix h5).2 _ (lk_mem h2)
                · obtain ⟨h3, h4⟩ := hbo j nd h2
                  exact ⟨by omega, by omega, h4 _ (fun i hi => by rw [by_rho (by omega), if_neg (by omega)])⟩
              refine ⟨j, by rw [rho_get hjn.1, if_neg hjn.2.1], ?_⟩
              rw [eqS, lk_append, mapO_none (fun q hq h => by
                have := ekeys q hq
                rw [by_rho (by omega), if_pos (by omega)] at h
                omega), hjn.2.2]
              exact hj'
          · intro j hj
            rw [rho_get (by omega), if_neg (by omega)]
      obtain ⟨th'', hS2⟩ := hnext
      refine ih (e :: lD) (s.setIfInBounds i true) th'' z' a' w' (inv.set hir hi) (by simp; omega) ?_ ?_ ?_ ?_ hS2
      · intro e1 he1
        rcases List.mem_cons.1 he1 with rfl | he1
        · rw [ei]; exact ⟨hi, q3⟩
        · exact hmem e1 he1
      · rw [List.map_cons, ei]
        exact List.nodup_cons.2 ⟨fun h => by
          obtain ⟨e1, h1, h2⟩ := List.mem_map.1 h
          exact hnot ⟨e1, h1, h2⟩, hnd⟩
      · intro j hj
        by_cases hij : i = j
        · subst hij
          refine ⟨fun _ => ⟨e, by simp, ei⟩, fun _ => ?_⟩
          have : i < s.size := by rw [inv.size]; have := ok.le; omega
          simp [this]
        · rw [getD_set_ne false hij, hs j hj]
          constructor
          · rintro ⟨e1, h1, h2⟩; exact ⟨e1, by simp [h1], h2⟩
          · rintro ⟨e1, h1, h2⟩
            rcases List.mem_cons.1 h1 with rfl | h1
            · exact (hij (ei.symm.trans h2)).elim
            · exact ⟨e1, h1, h2⟩
      · intro e1 he1 p1 hp1 x hx
        rcases List.mem_cons.1 he1 with rfl | he1
        · rw [ei, q2] at hp1; cases hp1
          obtain ⟨e2, h1, h2⟩ := hancD x hx
          exact ⟨e2, by simp [h1], h2⟩
        · obtain ⟨e2, h1, h2⟩ := hanc e1 he1 p1 hp1 x hx
          exact ⟨e2, by simp [h1], h2⟩
    by_cases hz : ∃ z ∈ zs, z ∈ Region.ready .any ops s
    · obtain ⟨z, hzm, hzr⟩ := hz
      obtain ⟨hzn, oz, hoz, hext, hgz, hfree⟩ := ok.strag z hzm
      obtain ⟨o', q1, _, h1⟩ := body (fun _ _ _ => False) z hzr hzn
      obtain rfl : o' = oz := Option.some.inj (q1.symm.trans hoz)
      obtain ⟨u, hy, hK⟩ := extract_yields (ops := ops) hext hgz h1
      refine wpAny_first hoz (ok.sel (fun h => by rw [h] at hzm; cases hzm)) (fun c a w => hQ c a _ _ w) (f + g) s a w (fun j oj hj hne hun hno => hfree j oj hj hne (fun p hp hja => ?_) hno) hzr hy hK
      obtain ⟨_, o2, ho2, hdeps⟩ := mem_ready.1 hzr
      obtain ⟨ed, he, hb, h6⟩ := ok.anc z o2 p hzn ho2 hp j hja
      have hdone := hdeps ed he hb
      have hlt := ok.back z o2 hzn ho2 ed he hb
      obtain ⟨e1, h7, h8⟩ := (hs ed.on (by omega)).1 hdone
      have hj2 : ∃ e' ∈ lD, e'.i = j := by
        rcases h6 with rfl | ⟨q, hq, hxq⟩
        · exact ⟨e1, h7, h8⟩
        · exact hanc e1 h7 q (by rw [h8]; exact hq) j hxq
      obtain ⟨e2, h9, h10⟩ := hj2
      have := (hs j (by rw [← h10]; exact (hmem e2 h9).1)).2 ⟨e2, h9, h10⟩
      rw [getD_both hun] at this; cases this
    refine ⟨fun h => absurd h hready, fun i hir => ?_⟩
    have hi : i < n := by
      have hex : ∃ i, i < n ∧ ¬ ∃ e ∈ lD, e.i = i := by
        apply Classical.byContradiction
        intro hno
        have := nodup_sub_len (l' := lD.map (·.i)) range (fun i hi => by
          have hi : i < n := by simpa using hi
          have : ∃ e ∈ lD, e.i = i := Classical.byContradiction fun h => hno ⟨i, hi, h⟩
          obtain ⟨e, he, rfl⟩ := this
          exact List.mem_map_of_mem he)
        simp at this; omega
      obtain ⟨i0, hi0⟩ := hex
      obtain ⟨i1, ⟨hi1, hno⟩, hmin⟩ := exists_min (fun i => i < n ∧ ¬ ∃ e ∈ lD, e.i = i) i0 hi0
      obtain ⟨o, p, e, q1, q2, q3, q4⟩ := hprop i1 hi1
      have hr1 : i1 ∈ Region.ready .any ops s := mem_ready.2 ⟨hund i1 hi1 hno, o, q1, fun e he hb => by
        have hlt := ok.back i1 o hi1 q1 e he hb
        refine (hs e.on (by omega)).2 (Classical.byContradiction fun h => ?_)
        have := hmin e.on ⟨by omega, h⟩
        omega⟩
      exact ok.head s inv i1 hi1 (fun h => hz ⟨i1, h, hr1⟩) (hund i1 hi1 hno) i hir
    obtain ⟨o', q1, eg, h1⟩ := body Q i hir hi
    unfold wpOp
    simp only [q1]
    have hw : Region.wanted o' (yielded ops a.tmps) = true := by simp [Region.wanted, eg]
    rw [if_pos hw]
    exact .inl h1
end
end Go.AM
/- The abstract machine, 24: regions that draw their order, where what allocates is not ordered: how they are run. -/
namespace Go.AM
open Go
section
variable {P : Program} {E : Env} {N : Nat} {st : AS}
theorem awp_du {id : Nat} {ops : Array Oper} {AQ : AExit → AS → Prop} {ds : List (Option Nat)} {l l' : List Oper} (hm : P.follows .mixedOrders = true) (n : Nat) (pl : List PU) (tot : Nat) (dss zs : List Nat) (hB : okU ops n pl tot dss zs = true) (hd : dstOK N ops = true) (hds : dsOf ops = ds) (ht : ops.toList.drop n = l') (hh : ops.toList.take n = l)
    {m' : List (Nat × AV)} {M : Nat} (hf : fltM dss st.m = m') (hM : st.n + tot = M) (hbig : M + tot ≤ 1000000000) (h : ∀ (K : AS → Prop) (kp : AV → AS → Prop), (∀ st', AQ .normal st' → K st') → (∀ x st', AQ (.pan x) st' → kp x st') → exU P E N ds kp l' st.n ⟨m', st.o, M⟩ pl l 0 [] K) : AWP P E N (.region id ops true) st AQ := by
  subst hds ht hh hf
  have h := h (AQ .normal) (fun x st => AQ (.pan x) st) (fun _ h => h) (fun _ _ h => h)
  have ok := okU_spec hB
  intro Q hQ th z a w hs
  let Q' : Exit → Act → World → Prop := fun e a w => match e with
    | .panic c => ∀ a' : Act, a'.defers = a.defers → Q (.panic c) a' w
    | e => Q e a w
  refine wp_mono (Q := Q') ?_ (fun e a w hq => by
    cases e
    case panic c => exact hq a rfl
    all_goals exact hq)
  refine wp_region_any hm ?_
  have hdst := dstOK_spec hd
  obtain ⟨L, _, hL, hprop, htail⟩ := exU_out (N := N) (es := []) (j := 0) rfl (fun o ho => hdst o (List.mem_of_mem_take ho)) (fun p hp => by
    obtain ⟨i, hi⟩ := List.mem_iff_getElem?.1 hp
    have hi' : i < n := by have := (List.getElem?_eq_some_iff.1 hi).1; have := ok.len; omega
    have := ok.tot i p hi' hi
    show st.n + p.r + p.k ≤ M
    omega) h
  have hlen : (ops.toList.take n).length = n := by have := ok.le; simp; omega
  rw [hlen, Nat.zero_add] at hL
  simp only [Nat.zero_add] at hprop
  have hprop' : ∀ j, j < n → ∃ o p e, ops[j]? = some o ∧ pl[j]? = some p ∧ L[j]? = some e ∧ PropE P E N ⟨fltM dss st.m, st.o, M⟩ st.n L j o p e := by
    intro j hj
    obtain ⟨o, p, e, q1, q2, q3, q4⟩ := hprop j (by omega)
    rw [List.getElem?_take_of_lt hj] at q1
    exact ⟨o, p, e, by simpa using q1, q2, q3, q4⟩
  have hs0 := hs.ext (ext_drew w)
  have hm0 := hs.mem.len
  have inv0 : HeadInv .any ops n (Array.replicate ops.size false) :=
    ⟨by simp, fun j oj _ hl => (by rw [getD_replicate_false] at hl; cases hl), fun t _ ht => getD_in (by simpa using ht) (getD_replicate_false _ _)⟩
  have hbase : Sim E N (stE ⟨fltM dss st.m, st.o, M⟩ []) (th ++ List.replicate tot ⟨0, 0, 0, 0, false⟩) z a w.drew :=
    (hs0.more tot).sub (by show M = st.n + tot; omega) (fun i x hi => hi) (fun i x hi => (fltM_lk hi).2)
  have hE : E.th0.length ≤ st.n := by
    apply Classical.byContradiction
    intro hno
    have := hs.mem.pre st.n E.th0[st.n] (by simp [show st.n < E.th0.length by omega])
    have := (List.getElem?_eq_some_iff.1 this).1
    omega
  have key := anyU (Q := Q') (g := ops.size - n) (bs := ⟨fltM dss st.m, st.o, M⟩) (n0 := st.n) ok (fun c a d v w h a2 ha => h a2 (by rw [ha]; cases d <;> rfl)) hL hM.symm hbig hE hprop'
    (fun i x hi => by
      obtain ⟨h1, h2⟩ := fltM_lk hi
      refine ⟨h1, fun f hf => ?_⟩
      obtain ⟨y, _, hr⟩ := hs.slots i x h2
      exact hr.lt (fun i hi => hf i (by omega)))
    (fun i nd hi => by
      obtain ⟨L, h1, h2, _⟩ := hs.mem.nds i nd hi
      exact ⟨by have := (List.getElem?_eq_some_iff.1 h1).1; omega, fun f hf => h2.lt (fun i hi => hf i (by omega))⟩)
    (fun lD th' z' a' w' hin hall hsim => by
      have hsub : Sim E N (stE ⟨fltM dss st.m, st.o, M⟩ L.reverse) th' z' a' w' := by
        have hLi : ∀ e ∈ L, L[e.i]? = some e := fun e he => hin e (hall e he)
        have props : ∀ e ∈ L, ∃ o p, e.i < n ∧ ops[e.i]? = some o ∧ pl[e.i]? = some p ∧ PropE P E N ⟨fltM dss st.m, st.o, M⟩ st.n L e.i o p e := by
          intro e he
          have h1 := hLi e he
          have hlt : e.i < n := by have := (List.getElem?_eq_some_iff.1 h1).1; omega
          obtain ⟨o, p, e', q1, q2, q3, q4⟩ := hprop' e.i hlt
          rw [h1] at q3; cases q3
          exact ⟨o, p, hlt, q1, q2, q4⟩
        have back : ∀ e ∈ lD, e ∈ L := fun e he => List.mem_of_getElem? (hin e he)
        have hdist : ∀ a ∈ lD, ∀ b ∈ lD, a.d = b.d → a = b := by
          intro a ha b hb hab
          obtain ⟨o1, p1, l1, r1, r2, r3⟩ := props a (back a ha)
          obtain ⟨o2, p2, l2, t1, t2, t3⟩ := props b (back b hb)
          by_cases hne : b.i = a.i
          · have h1 := hin a ha
            have h2 := hin b hb
            rw [hne, h1] at h2; exact Option.some.inj h2
          · have := (ok.pair a.i b.i o1 p1 o2 p2 l1 l2 hne r1 r2 t1 t2).1
            rw [t3.d, r3.d, hab] at this; exact (this rfl).elim
        refine hsim.sub rfl (fun i x hi => ?_) (fun i x hi => ?_)
        · refine finO_get (fun e1 he1 y hy => ?_) ?_
          · obtain ⟨o1, p1, l1, r1, r2, r3⟩ := props e1 (back e1 he1)
            have hk1 := r3.keys _ (lk_mem hy)
            rcases lk_finO hi with ⟨e2, h1, h2⟩ | h2
            · obtain ⟨o2, p2, l2, t1, t2, t3⟩ := props e2 (List.mem_reverse.1 h1)
              have hk2 := t3.keys _ (lk_mem h2)
              by_cases hne : e2.i = e1.i
              · have g1 := hLi e2 (List.mem_reverse.1 h1)
                have g2 := hin e1 he1
                rw [hne, g2] at g1
                rw [← Option.some.inj g1, hy] at h2; exact Option.some.inj h2
              · have := (ok.pair e1.i e2.i o1 p1 o2 p2 l1 l2 hne r1 r2 t1 t2).2.2
                simp only at hk1 hk2; omega
            · obtain ⟨L', g1, _⟩ := hs.mem.nds i x h2
              have := (List.getElem?_eq_some_iff.1 g1).1
              simp only at hk1; omega
          · rcases lk_finO hi with ⟨e2, h1, h2⟩ | h2
            · exact .inl ⟨e2, hall e2 (List.mem_reverse.1 h1), h2⟩
            · exact .inr h2
        · rcases lk_finM hi with ⟨e2, h1, rfl, rfl⟩ | ⟨h1, h2⟩
          · exact finM_get (hall e2 (List.mem_reverse.1 h1)) hdist
          · show lk (finM lD _) i = _
            rw [finM_none (fun e1 he1 => h1 e1 (List.mem_reverse.2 (back e1 he1)))]; exact h2
      have := wpAny_of_seq (md := .any) (Q' := Q') (ops.toList.drop n) n ((List.range ops.size).map fun i => decide (i < n)).toArray a' w' (fun j => by simp [List.getElem?_drop]) (by simpa using ok.seq)
        (exec_sound (Q := Q') (K := AQ .normal) (kp := fun x st => AQ (.pan x) st) (fun x v st' th' z' a' w' g1 g2 g3 a2 ha => hQ.2.2.2 x v st' th' z' w' g1 g2.mem g3 a2 (ha.trans g2.dfs)) (fun st' th' z' a' w' g1 g2 => hQ.1 st' th' z' a' w' g1 g2) _ (fun o ho => hdst o (List.mem_of_mem_drop ho)) hsub (exec_of htail))
      simpa using this)
    n [] (Array.replicate ops.size false) _ z a w.drew inv0 (by simp) (by simp) (by simp) (fun i hi => by rw [getD_replicate_false]; simp) (by simp) hbase
  have e : n + (ops.size - n) = ops.size := by have := ok.le; omega
  rw [e] at key
  exact key
end
section
variable (P : Program) (E : Env) (N : Nat) (ds : List (Option Nat)) (kp : AV → AS → Prop) (tail : List Oper) (n0 : Nat) (bs : AS) (p : PU) (pl : List PU) (rest : List Oper) (j d : Nat) (es : List En) (K : AS → Prop)
def kontU (v : AV) (oo : List (Nat × Nd)) : Prop := fixU bs.n n0 p.chk v oo ∧ exU P E N ds kp tail n0 bs pl rest (j + 1) (⟨j, d, v, oo⟩ :: es) K
def goUQ (r : SR) : Prop := match r with
  | .val v _ => p.k = 0 ∧ kontU P E N ds kp tail n0 bs p pl rest j d es K v []
  | _ => False
def goUL (r : Option (Prop × TypeId × Nat × Nat × List (List AV))) : Prop := match r with
  | some (c, e, sz, len, els) => c ∧ p.k = 1 ∧ kontU P E N ds kp tail n0 bs p pl rest j d es K (.s (n0 + p.r) 0 len) [(n0 + p.r, .lst e sz els)]
  | none => False
def goUA (T : TypeId) (r : Option TY) : Prop := match r with
  | some ⟨_, _, _, some zs⟩ => p.k = 1 ∧ kontU P E N ds kp tail n0 bs p pl rest j d es K (.p (n0 + p.r) 0 0) [(n0 + p.r, .box T (zs.map .r))]
  | _ => False
def callU (R : AS) (g : Nat) (xs : List AV) : Prop := CallU P E.G R g xs (n0 + p.r) p.k (kontU P E N ds kp tail n0 bs p pl rest j d es K)
def goUC (R : AS) (f : Option AV) (xs : Option (List AV)) : Prop := match f, xs with
  | some (.fn g caps), some xs => callU P E N ds kp tail n0 bs p pl rest j d es K R g (xs ++ caps)
  | _, _ => False
def goU (q : Bool) (R : AS) (op : Op) : Prop := match q with
  | true => goUQ P E N ds kp tail n0 bs p pl rest j d es K (stepR P E.G R op)
  | false => MakesU P E R op (n0 + p.r) p.k (kontU P E N ds kp tail n0 bs p pl rest j d es K)
@[go_sem] theorem exU_nil (pl : List PU) : exU P E N ds kp tail n0 bs pl [] j es K = ex P E N ds kp tail (stE bs es) K := by cases pl <;> rfl
theorem makes_q (R : AS) (op : Op) (h : isQ op = true) (r k : Nat) (kont : AV → List (Nat × Nd) → Prop) : MakesU P E R op r k kont = (match stepR P E.G R op with | .val v _ => k = 0 ∧ kont v [] | _ => False) := by
  have key : ∀ x : Option AV, (match x with | some v => k = 0 ∧ kont v [] | none => False) = (match ofO R x with | .val v _ => k = 0 ∧ kont v [] | _ => False) := by
    intro x; cases x <;> rfl
  cases op
  case call c =>
    obtain ⟨callee, args, ats⟩ := c
    cases callee with
    | value f => simp [isQ] at h
    | builtin b => cases b <;> first | (simp [isQ] at h; done) | (rw [stepR_call_else (by simp) (by simp) (by simp)]; exact key _)
    | invoke a b => simp [isQ] at h
  all_goals first | (simp [isQ] at h; done) | exact key _ | exact key none | rfl
@[go_sem] theorem exU_cons (op : Op) (t : TypeId) (pp : String) (af : Array Edge) : exU P E N ds kp tail n0 bs (p :: pl) (⟨some d, op, t, pp, af, none⟩ :: rest) j es K = goU P E N ds kp tail n0 bs p pl rest j d es K (isQ op) (stE bs (fltE p.anc es)) op := by
  have e : exU P E N ds kp tail n0 bs (p :: pl) (⟨some d, op, t, pp, af, none⟩ :: rest) j es K = MakesU P E (stE bs (fltE p.anc es)) op (n0 + p.r) p.k (kontU P E N ds kp tail n0 bs p pl rest j d es K) := by
    simp only [exU, true_and]; rfl
  rw [e]
  cases h : isQ op
  · rfl
  · exact makes_q P E _ op h _ _ _
@[go_sem] theorem goU_t (R : AS) (op : Op) : goU P E N ds kp tail n0 bs p pl rest j d es K true R op = goUQ P E N ds kp tail n0 bs p pl rest j d es K (stepR P E.G R op) := rfl
@[go_sem] theorem goU_list (R : AS) (T : TypeId) (len : Nat) (ps : Array (Nat × Operand)) : goU P E N ds kp tail n0 bs p pl rest j d es K false R (.buildSlice T len ps) = goUL P E N ds kp tail n0 bs p pl rest j d es K (lstU P E.G R (.buildSlice T len ps)) := rfl
@[go_sem] theorem goU_alloc (R : AS) (T : TypeId) : goU P E N ds kp tail n0 bs p pl rest j d es K false R (.alloc T) = goUA P E N ds kp tail n0 bs p pl rest j d es K T (tyOf P T) := rfl
@[go_sem] theorem goUA_some (T : TypeId) (k1 : TK) (s1 b1 : Nat) (zs : List Value) : goUA P E N ds kp tail n0 bs p pl rest j d es K T (some ⟨k1, s1, b1, some zs⟩) = (p.k = 1 ∧ kontU P E N ds kp tail n0 bs p pl rest j d es K (.p (n0 + p.r) 0 0) [(n0 + p.r, .box T (zs.map .r))]) := rfl
@[go_sem] theorem goU_call (R : AS) (f : Operand) (args : Array Operand) (ats : Array TypeId) : goU P E N ds kp tail n0 bs p pl rest j d es K false R (.call { callee := .value f, args := args, argTypes := ats }) = goUC P E N ds kp tail n0 bs p pl rest j d es K R (ev R E.G f) (evs R E.G args.toList) := rfl
@[go_sem] theorem goUQ_val (v : AV) (s : AS) : goUQ P E N ds kp tail n0 bs p pl rest j d es K (.val v s) = (p.k = 0 ∧ kontU P E N ds kp tail n0 bs p pl rest j d es K v []) := rfl
@[go_sem] theorem goUL_some (c : Prop) (e : TypeId) (sz len : Nat) (els : List (List AV)) : goUL P E N ds kp tail n0 bs p pl rest j d es K (some (c, e, sz, len, els)) = (c ∧ p.k = 1 ∧ kontU P E N ds kp tail n0 bs p pl rest j d es K (.s (n0 + p.r) 0 len) [(n0 + p.r, .lst e sz els)]) := rfl
@[go_sem] theorem goUC_some (R : AS) (g : Nat) (caps xs : List AV) : goUC P E N ds kp tail n0 bs p pl rest j d es K R (some (.fn g caps)) (some xs) = callU P E N ds kp tail n0 bs p pl rest j d es K R g (xs ++ caps) := rfl
@[go_sem] theorem kontU_eq (v : AV) (oo : List (Nat × Nd)) : kontU P E N ds kp tail n0 bs p pl rest j d es K v oo = (fixU bs.n n0 p.chk v oo ∧ exU P E N ds kp tail n0 bs pl rest (j + 1) (⟨j, d, v, oo⟩ :: es) K) := rfl
end
section
variable {P : Program} {E : Env} {N : Nat} {ds : List (Option Nat)} {kp : AV → AS → Prop} {tail : List Oper} {n0 : Nat} {bs : AS} {p : PU} {pl : List PU} {rest : List Oper} {j d : Nat} {es : List En} {K : AS → Prop}
theorem callU_i {R : AS} {g : Nat} {xs ys : List AV} {res : AV} {os : List (Nat × Nd)} {k : Nat} (hc : Con P E.G g ys [] 0 (Is res os k) No) (hb : borL R xs = some ys) (hp : PT res) (hq : ∀ p ∈ os, PTNd p.2)
    (hx : k = p.k ∧ (∀ x ∈ os, x.1 < p.k) ∧ (p.k = 0 → ren (· + R.n) res = ren (· + (n0 + p.r)) res) ∧ (0 < p.k → ren (by_ (rho R.n (n0 + p.r) p.k)) (ren (· + (n0 + p.r)) res) = ren (· + R.n) res ∧ mapO (by_ (rho R.n (n0 + p.r) p.k)) (shO (n0 + p.r) os) = shO R.n os))
    (hk : kontU P E N ds kp tail n0 bs p pl rest j d es K (ren (· + (n0 + p.r)) res) (shO (n0 + p.r) os)) : callU P E N ds kp tail n0 bs p pl rest j d es K R g xs := by
  obtain ⟨rfl, h1, h2, h3⟩ := hx
  exact ⟨ys, res, os, hc, hb, hp, hq, h1, h2, h3, hk⟩
@[go_sem] theorem by_rho_in {M r k i : Nat} (h : i < M) (h1 : r ≤ i) (h2 : i < r + k) : by_ (rho M r k) i = M + (i - r) := by rw [by_rho h, if_pos ⟨h1, h2⟩]
@[go_sem] theorem by_rho_lo {M r k i : Nat} (h : i < M) (h1 : i < r) : by_ (rho M r k) i = i := by rw [by_rho h, if_neg (by omega)]
@[go_sem] theorem by_rho_hi {M r k i : Nat} (h : i < M) (h1 : r + k ≤ i) : by_ (rho M r k) i = i := by rw [by_rho h, if_neg (by omega)]
end
attribute [go_sem] stE finM finO fltE fltM fixU fixO lstU pureL pureA mapO memN true_and and_true cond_true cond_false
end Go.AM
/- The abstract machine, 25: the same laws under short names; what is plain about them is found by itself. -/
namespace Go.AM
open Go
section
variable {P : Program} {E : Env} {N : Nat} {st : AS} {AQ : AExit → AS → Prop}
theorem rR {id : Nat} {ops : Array Oper} (h : ∀ (K : AS → Prop) (kp : AV → AS → Prop), (∀ st', AQ .normal st' → K st') → (∀ x st', AQ (.pan x) st' → kp x st') → ex P E N (dsOf ops) kp ops.toList st K) (hd : dstOK N ops = true := by kernel_rfl) : AWP P E N (.region id ops false) st AQ := awp_r hd h
theorem rD {id : Nat} {ops : Array Oper} {ds : List (Option Nat)} {l l' : List Oper} (hm : P.follows .mixedOrders = true) (n : Nat) (ord : List Nat)
    (h : ∀ (K : AS → Prop) (kp : AV → AS → Prop), (∀ st', AQ .normal st' → K st') → (∀ x st', AQ (.pan x) st' → kp x st') → exD P E N ds kp l' l st K)
    (hB : okDraw ops n ord = true := by kernel_rfl) (hd : dstOK N ops = true := by kernel_rfl) (hg : ((ordOf ops ord).all fun o => isG o.op) = true := by kernel_rfl)
    (hds : dsOf ops = ds := by simp only [go_sem]; rfl) (ht : ops.toList.drop n = l' := by simp only [go_sem]; rfl) (hh : ordOf ops ord = l := by simp only [go_sem]; rfl) : AWP P E N (.region id ops true) st AQ :=
  awp_dr hm n ord hB hd hg hds ht hh h
theorem rX {id : Nat} {ops : Array Oper} {ds : List (Option Nat)} {l l' : List Oper} (hm : P.follows .mixedOrders = true) (ws : List Nat) (n : Nat) (ord : List Nat)
    (h : ∀ (K : AS → Prop) (kp : AV → AS → Prop), (∀ st', AQ .normal st' → K st') → (∀ x st', AQ (.pan x) st' → kp x st') → exX P E N ws ds kp l' l st K)
    (hB : okDraw ops n ord = true := by kernel_rfl) (hd : dstOK N ops = true := by kernel_rfl)
    (hds : dsOf ops = ds := by simp only [go_sem]; rfl) (ht : ops.toList.drop n = l' := by simp only [go_sem]; rfl) (hh : ordOf ops ord = l := by simp only [go_sem]; rfl) (hws : prs ws st = true := by rfl) : AWP P E N (.region id ops true) st AQ :=
  awp_dx hm ws n ord hB hd hds ht hh hws h
theorem rU {id : Nat} {ops : Array Oper} {ds : List (Option Nat)} {l l' : List Oper} {m' : List (Nat × AV)} {M : Nat} (hm : P.follows .mixedOrders = true) (n : Nat) (pl : List PU) (tot : Nat) (dss zs : List Nat)
    (h : ∀ (K : AS → Prop) (kp : AV → AS → Prop), (∀ st', AQ .normal st' → K st') → (∀ x st', AQ (.pan x) st' → kp x st') → exU P E N ds kp l' st.n ⟨m', st.o, M⟩ pl l 0 [] K)
    (hB : okU ops n pl tot dss zs = true := by kernel_rfl) (hd : dstOK N ops = true := by kernel_rfl)
    (hds : dsOf ops = ds := by simp only [go_sem]; rfl) (ht : ops.toList.drop n = l' := by simp only [go_sem]; rfl) (hh : ops.toList.take n = l := by simp only [go_sem]; rfl)
    (hf : fltM dss st.m = m' := by simp only [go_sem]; rfl) (hM : st.n + tot = M := by simp only [go_sem]; rfl) (hbig : M + tot ≤ 1000000000 := by omega) : AWP P E N (.region id ops true) st AQ :=
  awp_du hm n pl tot dss zs hB hd hds ht hh hf hM hbig h
variable {ds : List (Option Nat)} {kp : AV → AS → Prop} {tail rest : List Oper} {K : AS → Prop} {d : Option Nat} {ws : List Nat}
theorem cR {f : Nat} {xs ys : List AV} {res : AV} {os : List (Nat × Nd)} {m : Nat} (hc : Con P E.G f ys [] 0 (Is res os m) No) (hk : ex P E N ds kp rest ({ st with o := shO st.n os ++ st.o, n := st.n + m }.put d (ren (· + st.n) res)) K)
    (hb : borL st xs = some ys := by first | (simp (implicitDefEqProofs := false) (maxSteps := 2000000) (disch := omega) only [go_sem]; first | done | rfl) | rfl | (simp (implicitDefEqProofs := false) (maxSteps := 2000000) (disch := omega) only [go_sem, *, List.map_take, List.map_drop]; first | done | rfl))
    (hp : PT res := by first | (simp [-List.map_drop, -List.map_take]; done) | exact .ro _ _ (pt_map _ _))
    (hq : ∀ p ∈ os, PTNd p.2 := by first | (simp [-List.map_drop, -List.map_take]; done) | (intro _ h; simp only [List.mem_singleton] at h; subst h; exact pt_map _ _)) : callR P E N ds kp rest st K f xs d := callR_i hc hb hp hq hk
theorem cD {f : Nat} {xs ys : List AV} {res : AV} {os : List (Nat × Nd)} {m : Nat} (hc : Con P E.G f ys [] 0 (Is res os m) No) (hk : exD P E N ds kp tail rest ({ st with o := shO st.n os ++ st.o, n := st.n + m }.put d (ren (· + st.n) res)) K)
    (hb : borL st xs = some ys := by first | (simp (implicitDefEqProofs := false) (maxSteps := 2000000) (disch := omega) only [go_sem]; first | done | rfl) | rfl | (simp (implicitDefEqProofs := false) (maxSteps := 2000000) (disch := omega) only [go_sem, *, List.map_take, List.map_drop]; first | done | rfl))
    (hp : PT res := by first | (simp [-List.map_drop, -List.map_take]; done) | exact .ro _ _ (pt_map _ _))
    (hq : ∀ p ∈ os, PTNd p.2 := by first | (simp [-List.map_drop, -List.map_take]; done) | (intro _ h; simp only [List.mem_singleton] at h; subst h; exact pt_map _ _)) : callD P E N ds kp tail rest st K f xs d := callD_i hc hb hp hq hk
theorem cX {f : Nat} {xs ys : List AV} {res : AV} {os : List (Nat × Nd)} {m : Nat} (hc : Con P E.G f ys [] 0 (Is res os m) No) (hk : exX P E N ws ds kp tail rest ({ st with o := shO st.n os ++ st.o, n := st.n + m }.put d (ren (· + st.n) res)) K)
    (hb : borL st xs = some ys := by first | (simp (implicitDefEqProofs := false) (maxSteps := 2000000) (disch := omega) only [go_sem]; first | done | rfl) | rfl | (simp (implicitDefEqProofs := false) (maxSteps := 2000000) (disch := omega) only [go_sem, *, List.map_take, List.map_drop]; first | done | rfl))
    (hp : PT res := by first | (simp [-List.map_drop, -List.map_take]; done) | exact .ro _ _ (pt_map _ _))
    (hq : ∀ p ∈ os, PTNd p.2 := by first | (simp [-List.map_drop, -List.map_take]; done) | (intro _ h; simp only [List.mem_singleton] at h; subst h; exact pt_map _ _)) : callX P E N ws ds kp tail rest st K f xs d := callX_i hc hb hp hq hk
theorem cU {n0 : Nat} {bs : AS} {p : PU} {pl : List PU} {j d : Nat} {es : List En} {R : AS} {g : Nat} {xs ys : List AV} {res : AV} {os : List (Nat × Nd)} {k : Nat} (hc : Con P E.G g ys [] 0 (Is res os k) No)
    (hk : kontU P E N ds kp tail n0 bs p pl rest j d es K (ren (· + (n0 + p.r)) res) (shO (n0 + p.r) os))
    (hb : borL R xs = some ys := by first | (simp (implicitDefEqProofs := false) (maxSteps := 2000000) (disch := omega) only [go_sem]; first | done | rfl) | rfl | (simp (implicitDefEqProofs := false) (maxSteps := 2000000) (disch := omega) only [go_sem, *, List.map_take, List.map_drop]; first | done | rfl))
    (hp : PT res := by first | (simp [-List.map_drop, -List.map_take]; done) | exact .ro _ _ (pt_map _ _))
    (hq : ∀ p ∈ os, PTNd p.2 := by first | (simp [-List.map_drop, -List.map_take]; done) | (intro _ h; simp only [List.mem_singleton] at h; subst h; exact pt_map _ _))
    (hx : k = p.k ∧ (∀ x ∈ os, x.1 < p.k) ∧ (p.k = 0 → ren (· + R.n) res = ren (· + (n0 + p.r)) res) ∧ (0 < p.k → ren (by_ (rho R.n (n0 + p.r) p.k)) (ren (· + (n0 + p.r)) res) = ren (· + R.n) res ∧ mapO (by_ (rho R.n (n0 + p.r) p.k)) (shO (n0 + p.r) os) = shO R.n os) := by simp (disch := omega) [go_sem]) :
    callU P E N ds kp tail n0 bs p pl rest j d es K R g xs := callU_i hc hb hp hq hx hk
variable {op : Op} {b w : Bool}
theorem aG (h1 : b = true → goG P E N ds kp rest st K (.ask true w) d op) (h2 : b = false → goG P E N ds kp rest st K (.ask false w) d op) : goG P E N ds kp rest st K (.ask b w) d op := goG_ask h1 h2
theorem aD (h1 : b = true → goGD P E N ds kp tail rest st K (.ask true w) d op) (h2 : b = false → goGD P E N ds kp tail rest st K (.ask false w) d op) : goGD P E N ds kp tail rest st K (.ask b w) d op := goGD_ask h1 h2
theorem aX (h1 : b = true → goGX P E N ws ds kp tail rest st K (.ask true w) d op) (h2 : b = false → goGX P E N ws ds kp tail rest st K (.ask false w) d op) : goGX P E N ws ds kp tail rest st K (.ask b w) d op := goGX_ask h1 h2
theorem iG {g : GV} (h : goG P E N ds kp rest st K g d op) : goG P E N ds kp rest st K g d op := h
theorem iD {g : GV} (h : goGD P E N ds kp tail rest st K g d op) : goGD P E N ds kp tail rest st K g d op := h
theorem iX {g : GV} (h : goGX P E N ws ds kp tail rest st K g d op) : goGX P E N ws ds kp tail rest st K g d op := h
theorem rI {rs : List ResultVar} {R : AV → List (Nat × Nd) → Nat → Prop} {l : List AV} {y : AV} {o : List (Nat × Nd)} {n : Nat} (he : EmbS E N st (oneA l) o n y) (hl : rvsA P st rs = some l := by rfl) : retA P E N rs (Is y o n) R .ret st := retA_is hl he
theorem eN {x y : AV} (hE : E.th0.length = 0) (hx : x = ren (by_ []) y) (hb : st.n ≤ 1000000000 := by simp) : EmbS E N st x [] 0 y := (embV_nil hE hb hx).s
end
theorem ifs : (∀ (p : Prop) [Decidable p], (decide p = true) = p) ∧ (∀ (p : Prop) [Decidable p], (decide p = false) = ¬ p) ∧ (∀ a b : Int, (¬ a < b) = (b ≤ a)) ∧ (∀ a b : Int, (¬ a ≤ b) = (b < a)) ∧ (∀ b : Bool, (¬ b = true) = (b = false)) ∧ (∀ b : Bool, (¬ b = false) = (b = true)) ∧
    (∀ a b : Int, ((a != b) = true) = ¬ a = b) ∧ (∀ a b : Int, ((a == b) = true) = (a = b)) ∧ (∀ a b : Int, ((a != b) = false) = (a = b)) ∧ (∀ a b : Int, ((a == b) = false) = ¬ a = b) := by
  refine ⟨fun p _ => by simp, fun p _ => by simp, fun a b => by simp, fun a b => by simp, fun b => by simp, fun b => by simp, fun a b => by simp, fun a b => by simp, fun a b => by simp, fun a b => by simp⟩
end Go.AM
