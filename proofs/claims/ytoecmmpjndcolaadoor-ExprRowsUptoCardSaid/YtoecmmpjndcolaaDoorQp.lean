/- The abstract machine, 16: the same steps, as data that a rewriter can run: no continuation stands in sight. -/
import Derived.Test.YtoecmmpjndcolaaDoorQo
import Derived.Test.YtoecmmpjndcolaaDoorQq
import Derived.Below
set_option linter.unusedSimpArgs false
set_option linter.unusedVariables false
namespace Go.AM
open Go
/-- What a step comes to. -/
inductive SR where
  | val (v : AV) (st : AS)
  | cond (c : Prop) (v : AV) (st : AS)
  | call (g : Nat) (xs : List AV)
  | pan (x : AV)
  | bad
def ofO (st : AS) : Option AV → SR
  | some v => .val v st
  | none => .bad
def ofE : Option (Prop × AV × AS) → SR
  | some (c, v, s) => .cond c v s
  | none => .bad
def ofF : Option AV → Option (List AV) → SR
  | some (.fn g caps), some xs => .call g (xs ++ caps)
  | _, _ => .bad
def ofP : Option AV → SR
  | some (.ifc t v) => .pan (.ifc t v)
  | _ => .bad
def callSR (P : Program) (G : List (Nat × List Value)) (st : AS) : Call → SR
  | { callee := .value f, args, .. } => ofF (ev st G f) (evs st G args.toList)
  | { callee := .builtin .append, args, argTypes } => ofE (effR P G st (.call { callee := .builtin .append, args := args, argTypes := argTypes }))
  | c => ofO st (qv P G st (.call c))
def stepR (P : Program) (G : List (Nat × List Value)) (st : AS) : Op → SR
  | .call c => callSR P G st c
  | .box T x => ofE (effR P G st (.box T x))
  | .alloc T => ofE (effR P G st (.alloc T))
  | .buildSlice T n ps => ofE (effR P G st (.buildSlice T n ps))
  | .store T x v => ofE (effR P G st (.store T x v))
  | .makeSlice T l c => ofE (effR P G st (.makeSlice T l c))
  | .panic x => ofP (ev st G x)
  | op => ofO st (qv P G st op)
def runA (P : Program) (E : Env) (N : Nat) (r : SR) (st : AS) (k kp : AV → AS → Prop) : Prop := match r with
  | .val v st' => k v st'
  | .cond c v st' => c ∧ k v st'
  | .call g xs => CallV P E N g xs st k kp
  | .pan x => kp x st
  | .bad => False
def runG (P : Program) (E : Env) (N : Nat) (r : SR) (st : AS) (k kp : AV → AS → Prop) : Prop := match r with
  | .val v st' => k v st'
  | .cond c v st' => c ∧ k v st'
  | .call g xs => CallG P E N g xs st k kp
  | .pan x => kp x st
  | .bad => False
section
variable {P : Program} {E : Env} {N : Nat} {st : AS} {k kp : AV → AS → Prop}
theorem stepR_call_else {G : List (Nat × List Value)} {c : Call} (h1 : ∀ f, c.callee ≠ .value f) (h2 : c.callee ≠ .builtin .append) : stepR P G st (.call c) = ofO st (qv P G st (.call c)) := by
  obtain ⟨callee, args, ats⟩ := c
  cases callee with
  | value f => exact absurd rfl (h1 f)
  | builtin b => cases b <;> first | rfl | exact absurd rfl h2
  | invoke a b => rfl
theorem runA_ofO {x : Option AV} (h : runA P E N (ofO st x) st k kp) : bindO x (fun v => k v st) := by
  cases x with
  | none => exact h.elim
  | some v => exact h
theorem runA_ofE {x : Option (Prop × AV × AS)} (h : runA P E N (ofE x) st k kp) : bindE x k := by
  cases x with
  | none => exact h.elim
  | some v => exact h
theorem stepA_of (op : Op) (h : runA P E N (stepR P E.G st op) st k kp) : stepA P E N st op k kp := by
  cases op
  case call c =>
    obtain ⟨callee, args, ats⟩ := c
    cases callee with
    | value f =>
      change runA P E N (ofF (ev st E.G f) (evs st E.G args.toList)) st k kp at h
      change bindF (ev st E.G f) (evs st E.G args.toList) (fun g xs => CallV P E N g xs st k kp)
      revert h
      generalize ev st E.G f = a
      generalize evs st E.G args.toList = b
      intro h
      unfold ofF at h
      split at h
      · exact h
      · exact h.elim
    | builtin b =>
      cases b
      case append => exact runA_ofE h
      all_goals (rw [stepR_call_else (by simp) (by simp)] at h; exact runA_ofO h)
    | invoke a b => rw [stepR_call_else (by simp) (by simp)] at h; exact runA_ofO h
  case panic x =>
    change runA P E N (ofP (ev st E.G x)) st k kp at h
    change bindO (ev st E.G x) _
    revert h
    generalize ev st E.G x = a
    intro h
    unfold ofP at h
    split at h
    · exact h
    · exact h.elim
  case box => exact runA_ofE h
  case alloc => exact runA_ofE h
  case buildSlice => exact runA_ofE h
  case store => exact runA_ofE h
  case makeSlice => exact runA_ofE h
  all_goals first | exact (show False from h).elim | exact runA_ofO (st := st) (x := qv P E.G st _) h
/-- May a step stand where the order is drawn? -/
def isG : Op → Bool
  | .call { callee := .value _, .. } => true
  | .box .. | .alloc _ | .buildSlice .. | .makeSlice .. => true
  | op => isQ op
theorem runG_ofO {x : Option AV} (h : runG P E N (ofO st x) st k kp) : bindO x (fun v => k v st) := by
  cases x with
  | none => exact h.elim
  | some v => exact h
theorem runG_ofE {x : Option (Prop × AV × AS)} (h : runG P E N (ofE x) st k kp) : bindE x k := by
  cases x with
  | none => exact h.elim
  | some v => exact h
theorem stepG_of (op : Op) (hg : isG op = true) (h : runG P E N (stepR P E.G st op) st k kp) : stepG P E N st op k kp := by
  cases op
  case call c =>
    obtain ⟨callee, args, ats⟩ := c
    cases callee with
    | value f =>
      change runG P E N (ofF (ev st E.G f) (evs st E.G args.toList)) st k kp at h
      change bindF (ev st E.G f) (evs st E.G args.toList) (fun g xs => CallG P E N g xs st k kp)
      revert h
      generalize ev st E.G f = a
      generalize evs st E.G args.toList = b
      intro h
      unfold ofF at h
      split at h
      · exact h
      · exact h.elim
    | builtin b =>
      cases b
      case len => rw [stepR_call_else (by simp) (by simp)] at h; exact ⟨rfl, runG_ofO h⟩
      all_goals cases hg
    | invoke a b => cases hg
  case panic x => cases hg
  case store => cases hg
  case select => cases hg
  case box => exact runG_ofE h
  case alloc => exact runG_ofE h
  case buildSlice => exact runG_ofE h
  case makeSlice => exact runG_ofE h
  all_goals first | exact (show False from h).elim | exact ⟨rfl, runG_ofO (st := st) (x := qv P E.G st _) h⟩
theorem runA_mono {r : SR} {k' kp' : AV → AS → Prop} (h : runA P E N r st k kp) (hk : ∀ v s, k v s → k' v s) (hp : ∀ v s, kp v s → kp' v s) : runA P E N r st k' kp' := by
  cases r with
  | val v s => exact hk _ _ h
  | cond c v s => exact ⟨h.1, hk _ _ h.2⟩
  | call g xs => obtain ⟨ts, h⟩ := h; exact ⟨ts, h.mono hk hp⟩
  | pan x => exact hp _ _ h
  | bad => exact h
theorem runG_mono {r : SR} {k' kp' : AV → AS → Prop} (h : runG P E N r st k kp) (hk : ∀ v s, k v s → k' v s) (hp : ∀ v s, kp v s → kp' v s) : runG P E N r st k' kp' := by
  cases r with
  | val v s => exact hk _ _ h
  | cond c v s => exact ⟨h.1, hk _ _ h.2⟩
  | call g xs => exact CallT.mono h hk hp
  | pan x => exact hp _ _ h
  | bad => exact h
end
/-- Operations, one behind the other. -/
def ex (P : Program) (E : Env) (N : Nat) (ds : List (Option Nat)) (kp : AV → AS → Prop) : List Oper → AS → (AS → Prop) → Prop
  | [], st, K => K st
  | o :: rest, st, K => match gvOf ds st o.guard with
    | .yes => runA P E N (stepR P E.G st o.op) st (fun v st' => ex P E N ds kp rest (st'.put o.dst v) K) kp
    | .no => ex P E N ds kp rest (st.put o.dst (.r (.tuple #[]))) K
    | .bad => False
    | .ask b w => (b = w → runA P E N (stepR P E.G st o.op) st (fun v st' => ex P E N ds kp rest (st'.put o.dst v) K) kp) ∧ (b = !w → ex P E N ds kp rest (st.put o.dst (.r (.tuple #[]))) K)
def exD (P : Program) (E : Env) (N : Nat) (ds : List (Option Nat)) (kp : AV → AS → Prop) (tail : List Oper) : List Oper → AS → (AS → Prop) → Prop
  | [], st, K => ex P E N ds kp tail st K
  | o :: rest, st, K => match gvOf ds st o.guard with
    | .yes => runG P E N (stepR P E.G st o.op) st (fun v st' => exD P E N ds kp tail rest (st'.put o.dst v) K) kp
    | .no => exD P E N ds kp tail rest (st.put o.dst (.r (.tuple #[]))) K
    | .bad => False
    | .ask b w => (b = w → runG P E N (stepR P E.G st o.op) st (fun v st' => exD P E N ds kp tail rest (st'.put o.dst v) K) kp) ∧ (b = !w → exD P E N ds kp tail rest (st.put o.dst (.r (.tuple #[]))) K)
section
variable {P : Program} {E : Env} {N : Nat} {ds : List (Option Nat)} {kp : AV → AS → Prop} {K : AS → Prop}
theorem exec_of : ∀ {l : List Oper} {st : AS}, ex P E N ds kp l st K → exec P E N ds kp l st K
  | [], st, h => h
  | o :: rest, st, h => by
    unfold ex at h
    unfold exec
    have go : runA P E N (stepR P E.G st o.op) st (fun v st' => ex P E N ds kp rest (st'.put o.dst v) K) kp → stepA P E N st o.op (fun v st' => exec P E N ds kp rest (st'.put o.dst v) K) kp :=
      fun h => stepA_of _ (runA_mono h (fun _ _ h => exec_of h) (fun _ _ h => h))
    split at h
    · rename_i e; rw [e]; exact go h
    · rename_i e; rw [e]; exact exec_of h
    · exact h.elim
    · rename_i e; rw [e]; exact ⟨fun e => go (h.1 e), fun e => exec_of (h.2 e)⟩
theorem execD_of {tail : List Oper} : ∀ {l : List Oper} {st : AS}, (l.all fun o => isG o.op) = true → exD P E N ds kp tail l st K → execD P E N ds kp tail l st K
  | [], st, _, h => exec_of h
  | o :: rest, st, hg, h => by
    simp only [List.all_cons, Bool.and_eq_true] at hg
    unfold exD at h
    unfold execD
    have go : runG P E N (stepR P E.G st o.op) st (fun v st' => exD P E N ds kp tail rest (st'.put o.dst v) K) kp → stepG P E N st o.op (fun v st' => execD P E N ds kp tail rest (st'.put o.dst v) K) kp :=
      fun h => stepG_of _ hg.1 (runG_mono h (fun _ _ h => execD_of hg.2 h) (fun _ _ h => h))
    split at h
    · rename_i e; rw [e]; exact go h
    · rename_i e; rw [e]; exact execD_of hg.2 h
    · exact h.elim
    · rename_i e; rw [e]; exact ⟨fun e => go (h.1 e), fun e => execD_of hg.2 (h.2 e)⟩
end
section
variable (P : Program) (E : Env) (N : Nat) (ds : List (Option Nat)) (kp : AV → AS → Prop) (tail rest : List Oper) (st : AS) (K : AS → Prop)
def goG (g : GV) (d : Option Nat) (op : Op) : Prop := match g with
  | .yes => runA P E N (stepR P E.G st op) st (fun v st' => ex P E N ds kp rest (st'.put d v) K) kp
  | .no => ex P E N ds kp rest (st.put d (.r (.tuple #[]))) K
  | .bad => False
  | .ask b w => (b = w → runA P E N (stepR P E.G st op) st (fun v st' => ex P E N ds kp rest (st'.put d v) K) kp) ∧ (b = !w → ex P E N ds kp rest (st.put d (.r (.tuple #[]))) K)
def goR (r : SR) (d : Option Nat) : Prop := runA P E N r st (fun v st' => ex P E N ds kp rest (st'.put d v) K) kp
def callR (g : Nat) (xs : List AV) (d : Option Nat) : Prop := CallV P E N g xs st (fun v st' => ex P E N ds kp rest (st'.put d v) K) kp
def goGD (g : GV) (d : Option Nat) (op : Op) : Prop := match g with
  | .yes => runG P E N (stepR P E.G st op) st (fun v st' => exD P E N ds kp tail rest (st'.put d v) K) kp
  | .no => exD P E N ds kp tail rest (st.put d (.r (.tuple #[]))) K
  | .bad => False
  | .ask b w => (b = w → runG P E N (stepR P E.G st op) st (fun v st' => exD P E N ds kp tail rest (st'.put d v) K) kp) ∧ (b = !w → exD P E N ds kp tail rest (st.put d (.r (.tuple #[]))) K)
def goRD (r : SR) (d : Option Nat) : Prop := runG P E N r st (fun v st' => exD P E N ds kp tail rest (st'.put d v) K) kp
def callD (g : Nat) (xs : List AV) (d : Option Nat) : Prop := CallG P E N g xs st (fun v st' => exD P E N ds kp tail rest (st'.put d v) K) kp
@[go_sem] theorem ex_nil : ex P E N ds kp [] st K = K st := rfl
@[go_sem] theorem ex_cons (d : Option Nat) (op : Op) (t : TypeId) (p : String) (af : Array Edge) (g : Option (Nat × Bool)) : ex P E N ds kp (⟨d, op, t, p, af, g⟩ :: rest) st K = goG P E N ds kp rest st K (gvOf ds st g) d op := rfl
@[go_sem] theorem goG_yes (d : Option Nat) (op : Op) : goG P E N ds kp rest st K .yes d op = goR P E N ds kp rest st K (stepR P E.G st op) d := rfl
@[go_sem] theorem goG_no (d : Option Nat) (op : Op) : goG P E N ds kp rest st K .no d op = ex P E N ds kp rest (st.put d (.r (.tuple #[]))) K := rfl
@[go_sem] theorem goG_tt (d : Option Nat) (op : Op) : goG P E N ds kp rest st K (.ask true true) d op = goR P E N ds kp rest st K (stepR P E.G st op) d := by simp [goG, goR]
@[go_sem] theorem goG_ff (d : Option Nat) (op : Op) : goG P E N ds kp rest st K (.ask false false) d op = goR P E N ds kp rest st K (stepR P E.G st op) d := by simp [goG, goR]
@[go_sem] theorem goG_tf (d : Option Nat) (op : Op) : goG P E N ds kp rest st K (.ask true false) d op = ex P E N ds kp rest (st.put d (.r (.tuple #[]))) K := by simp [goG]
@[go_sem] theorem goG_ft (d : Option Nat) (op : Op) : goG P E N ds kp rest st K (.ask false true) d op = ex P E N ds kp rest (st.put d (.r (.tuple #[]))) K := by simp [goG]
@[go_sem] theorem goR_val (d : Option Nat) (v : AV) (s : AS) : goR P E N ds kp rest st K (.val v s) d = ex P E N ds kp rest (s.put d v) K := rfl
@[go_sem] theorem goR_cond (d : Option Nat) (c : Prop) (v : AV) (s : AS) : goR P E N ds kp rest st K (.cond c v s) d = (c ∧ ex P E N ds kp rest (s.put d v) K) := rfl
@[go_sem] theorem goR_call (d : Option Nat) (g : Nat) (xs : List AV) : goR P E N ds kp rest st K (.call g xs) d = callR P E N ds kp rest st K g xs d := rfl
@[go_sem] theorem goR_pan (d : Option Nat) (x : AV) : goR P E N ds kp rest st K (.pan x) d = kp x st := rfl
@[go_sem] theorem exD_nil : exD P E N ds kp tail [] st K = ex P E N ds kp tail st K := rfl
@[go_sem] theorem exD_cons (d : Option Nat) (op : Op) (t : TypeId) (p : String) (af : Array Edge) (g : Option (Nat × Bool)) : exD P E N ds kp tail (⟨d, op, t, p, af, g⟩ :: rest) st K = goGD P E N ds kp tail rest st K (gvOf ds st g) d op := rfl
@[go_sem] theorem goGD_yes (d : Option Nat) (op : Op) : goGD P E N ds kp tail rest st K .yes d op = goRD P E N ds kp tail rest st K (stepR P E.G st op) d := rfl
@[go_sem] theorem goGD_no (d : Option Nat) (op : Op) : goGD P E N ds kp tail rest st K .no d op = exD P E N ds kp tail rest (st.put d (.r (.tuple #[]))) K := rfl
@[go_sem] theorem goGD_tt (d : Option Nat) (op : Op) : goGD P E N ds kp tail rest st K (.ask true true) d op = goRD P E N ds kp tail rest st K (stepR P E.G st op) d := by simp [goGD, goRD]
@[go_sem] theorem goGD_ff (d : Option Nat) (op : Op) : goGD P E N ds kp tail rest st K (.ask false false) d op = goRD P E N ds kp tail rest st K (stepR P E.G st op) d := by simp [goGD, goRD]
@[go_sem] theorem goGD_tf (d : Option Nat) (op : Op) : goGD P E N ds kp tail rest st K (.ask true false) d op = exD P E N ds kp tail rest (st.put d (.r (.tuple #[]))) K := by simp [goGD]
@[go_sem] theorem goGD_ft (d : Option Nat) (op : Op) : goGD P E N ds kp tail rest st K (.ask false true) d op = exD P E N ds kp tail rest (st.put d (.r (.tuple #[]))) K := by simp [goGD]
@[go_sem] theorem goRD_val (d : Option Nat) (v : AV) (s : AS) : goRD P E N ds kp tail rest st K (.val v s) d = exD P E N ds kp tail rest (s.put d v) K := rfl
@[go_sem] theorem goRD_cond (d : Option Nat) (c : Prop) (v : AV) (s : AS) : goRD P E N ds kp tail rest st K (.cond c v s) d = (c ∧ exD P E N ds kp tail rest (s.put d v) K) := rfl
@[go_sem] theorem goRD_call (d : Option Nat) (g : Nat) (xs : List AV) : goRD P E N ds kp tail rest st K (.call g xs) d = callD P E N ds kp tail rest st K g xs d := rfl
end
section
variable (P : Program) (G : List (Nat × List Value)) (st : AS)
@[go_sem] theorem step_move (x : Operand) : stepR P G st (.move x) = ofO st (ev st G x) := rfl
@[go_sem] theorem step_assign (x : Operand) : stepR P G st (.assign x) = ofO st (ev st G x) := rfl
def pickO : Option AV → Option AV → Option AV → Option AV
  | some (.r (.bool c)), some a, some b => some (pickAV c a b)
  | _, _, _ => none
@[go_sem] theorem step_pick (c a b : Operand) : stepR P G st (.pick c a b) = ofO st (pickO (ev st G c) (ev st G a) (ev st G b)) := rfl
def loadO : Option TY → Option AV → Option AV
  | some y, some x => match cellsAt st x with
    | some (c, off) => pickC y c off
    | none => none
  | _, _ => none
@[go_sem] theorem step_load (T : TypeId) (x : Operand) : stepR P G st (.load T x) = ofO st (loadO st (tyOf P T) (ev st G x)) := rfl
def nilO : Option AV → Option AV
  | some (.re t c off) => some (.re t c off)
  | some (.p n i off) => some (.p n i off)
  | some (.fn f c) => some (.fn f c)
  | _ => none
@[go_sem] theorem step_nilCheck (x : Operand) : stepR P G st (.nilCheck x) = ofO st (nilO (ev st G x)) := rfl
def binO (op : BinOp) (T : TypeId) : Option TY → Option AV → Option AV → Option AV
  | some _, some (.agg a), some (.agg b) => eqA P op T a b
  | some ty, some a, some b => binA op ty a b
  | _, _, _ => none
@[go_sem] theorem step_bin (op : BinOp) (T T' : TypeId) (x y : Operand) : stepR P G st (.binOp op T x y T') = ofO st (binO P op T (tyOf P T) (ev st G x) (ev st G y)) := rfl
def unO (op : UnOp) : Option AV → Option AV
  | some a => unA op a
  | none => none
@[go_sem] theorem step_un (op : UnOp) (T : TypeId) (x : Operand) : stepR P G st (.unOp op T x) = ofO st (unO op (ev st G x)) := rfl
def cvO : Option TY → Option TY → Option AV → Option AV
  | some s, some d, some x => cvA P st s d x
  | _, _, _ => none
@[go_sem] theorem step_convert (s d : TypeId) (x : Operand) : stepR P G st (.convert s d x) = ofO st (cvO P st (tyOf P s) (tyOf P d) (ev st G x)) := rfl
def slO : Option TY → Option AV → Option (Option AV) → Option (Option AV) → Option AV
  | some y, some x, some lo, some hi => slA P st y lo hi x
  | _, _, _, _ => none
@[go_sem] theorem step_slice (T : TypeId) (x : Operand) (lo hi : Option Operand) : stepR P G st (.slice T x lo hi none) = ofO st (slO P st (tyOf P T) (ev st G x) (evOpt st G lo) (evOpt st G hi)) := rfl
def sl3O : Option TY → Option AV → Option (Option AV) → Option AV → Option AV → Option AV
  | some y, some x, some lo, some hi, some m => sl3A P st y lo hi m x
  | _, _, _, _, _ => none
@[go_sem] theorem step_slice3 (T : TypeId) (x : Operand) (lo : Option Operand) (hi m : Operand) : stepR P G st (.slice T x lo (some hi) (some m)) = ofO st (sl3O P st (tyOf P T) (ev st G x) (evOpt st G lo) (ev st G hi) (ev st G m)) := rfl
def capO : Option (List AV) → Option TypeId → Option AV
  | some [x], some T => match tyOf P T with
    | some y => capA x y.k
    | none => none
  | _, _ => none
@[go_sem] theorem step_cap (args : Array Operand) (ats : Array TypeId) : stepR P G st (.call { callee := .builtin .cap, args := args, argTypes := ats }) = ofO st (capO P (evs st G args.toList) ats[0]?) := rfl
def faO (f : Nat) : Option TY → Option AV → Option AV
  | some ⟨.struct fs, _, _, _⟩, some x => match fs[f]? with
    | some (off, sz) => if sz = 0 then none else ptrAdd off x
    | none => none
  | _, _ => none
@[go_sem] theorem step_fieldAddr (T : TypeId) (x : Operand) (f : Nat) : stepR P G st (.fieldAddr T x f) = ofO st (faO f (tyOf P T) (ev st G x)) := rfl
def iaO : Option TY → Option AV → Option AV → Option AV
  | some y, some x, some (.r (.int _ i)) => ixA st P y i x
  | _, _, _ => none
@[go_sem] theorem step_indexAddr (T : TypeId) (x i : Operand) : stepR P G st (.indexAddr T x i) = ofO st (iaO P st (tyOf P T) (ev st G x) (ev st G i)) := rfl
def ivO : Option TY → Option AV → Option AV → Option AV
  | some y, some x, some (.r (.int _ i)) => ixV P y i x
  | _, _, _ => none
@[go_sem] theorem step_index (T : TypeId) (x i : Operand) : stepR P G st (.index T x i) = ofO st (ivO P (tyOf P T) (ev st G x) (ev st G i)) := rfl
def exO (i : Nat) : Option AV → Option AV
  | some (.tup c) => c[i]?
  | _ => none
@[go_sem] theorem step_extract (t : Operand) (i : Nat) : stepR P G st (.extract t i) = ofO st (exO i (ev st G t)) := rfl
def lenO : Option (List AV) → Option TypeId → Option AV
  | some [x], some T => match tyOf P T with
    | some y => lenA x y.k
    | none => none
  | _, _ => none
def buildO : Option TY → Option (List (Nat × AV)) → Option AV
  | some ⟨.struct fs, _, _, some z⟩, some l => (fillA (fs[·]?) (z.map .r) l).map .agg
  | some ⟨.arr _ e, _, _, some z⟩, some l => match tyOf P e with
    | some ye => (fillA (fun i => some (i * ye.size, ye.size)) (z.map .r) l).map .agg
    | none => none
  | _, _ => none
@[go_sem] theorem step_build (T : TypeId) (ps : Array (Nat × Operand)) : stepR P G st (.build T ps) = ofO st (buildO P (tyOf P T) (evParts st G ps.toList)) := rfl
def ifcO (T : TypeId) : Option TY → Option AV → Option AV
  | some ⟨.ifc, _, _, _⟩, _ => none
  | some _, some x => some (.ifc T x)
  | _, _ => none
@[go_sem] theorem step_makeInterface (T : TypeId) (x : Operand) : stepR P G st (.makeInterface T x) = ofO st (ifcO T (tyOf P T) (ev st G x)) := rfl
@[go_sem] theorem step_len (args : Array Operand) (ats : Array TypeId) : stepR P G st (.call { callee := .builtin .len, args := args, argTypes := ats }) = ofO st (lenO P (evs st G args.toList) ats[0]?) := rfl
@[go_sem] theorem step_value (f : Operand) (args : Array Operand) (ats : Array TypeId) : stepR P G st (.call { callee := .value f, args := args, argTypes := ats }) = ofF (ev st G f) (evs st G args.toList) := rfl
@[go_sem] theorem step_append (args : Array Operand) (ats : Array TypeId) : stepR P G st (.call { callee := .builtin .append, args := args, argTypes := ats }) = ofE (effR P G st (.call { callee := .builtin .append, args := args, argTypes := ats })) := rfl
@[go_sem] theorem step_box (T : TypeId) (x : Operand) : stepR P G st (.box T x) = ofE (effR P G st (.box T x)) := rfl
@[go_sem] theorem step_alloc (T : TypeId) : stepR P G st (.alloc T) = ofE (effR P G st (.alloc T)) := rfl
@[go_sem] theorem step_store (T : TypeId) (x v : Operand) : stepR P G st (.store T x v) = ofE (effR P G st (.store T x v)) := rfl
@[go_sem] theorem step_buildSlice (T : TypeId) (n : Nat) (ps : Array (Nat × Operand)) : stepR P G st (.buildSlice T n ps) = ofE (effR P G st (.buildSlice T n ps)) := rfl
@[go_sem] theorem step_makeSlice (T : TypeId) (l c : Operand) : stepR P G st (.makeSlice T l c) = ofE (effR P G st (.makeSlice T l c)) := rfl
@[go_sem] theorem step_panic (x : Operand) : stepR P G st (.panic x) = ofP (ev st G x) := rfl
attribute [go_sem] ren renL renNd shO sl3O sl3A capO capA buildO ifcO eqA eqFs eqT eqC pickO loadO nilO binO unO cvO slO faO iaO ivO exO lenO ofO ofE ofF ofP effR gvOf ev evs lk AS.put putNd setNd binA isSh shA intA strA cellsAt pickC ptrAdd ixA ixV lenA lenS pickAV boolOf TK.agg unA evOpt elemsOf AV.okPart AV.cells AV.cell1 splice elsL frz frzL rm srcA fillA evParts bnd slA cvA nilA
end
section
variable {P : Program} {E : Env} {N : Nat} {st : AS} {AQ : AExit → AS → Prop}
theorem awp_rg {id : Nat} {ops : Array Oper} {ds : List (Option Nat)} {l : List Oper} (hd : dstOK N ops = true) (hds : dsOf ops = ds) (hl : ops.toList = l)
    (h : ∀ (K : AS → Prop) (kp : AV → AS → Prop), (∀ st', AQ .normal st' → K st') → (∀ x st', AQ (.pan x) st' → kp x st') → ex P E N ds kp l st K) : AWP P E N (.region id ops false) st AQ :=
  awp_region hd hds hl (exec_of (h _ _ (fun _ h => h) (fun _ _ h => h)))
theorem awp_dr {id : Nat} {ops : Array Oper} {ds : List (Option Nat)} {l l' : List Oper} (hm : P.follows .mixedOrders = true) (n : Nat) (ord : List Nat) (hB : okDraw ops n ord = true) (hd : dstOK N ops = true) (hg : ((ordOf ops ord).all fun o => isG o.op) = true)
    (hds : dsOf ops = ds) (ht : ops.toList.drop n = l') (hh : ordOf ops ord = l) (h : ∀ (K : AS → Prop) (kp : AV → AS → Prop), (∀ st', AQ .normal st' → K st') → (∀ x st', AQ (.pan x) st' → kp x st') → exD P E N ds kp l' l st K) : AWP P E N (.region id ops true) st AQ :=
  awp_draw hm n ord hB hd hds ht hh (execD_of (by rw [← hh]; exact hg) (h _ _ (fun _ h => h) (fun _ _ h => h)))
variable {ds : List (Option Nat)} {kp : AV → AS → Prop} {tail rest : List Oper} {K : AS → Prop} {d : Option Nat}
theorem callR_is {f : Nat} {xs ys : List AV} {res res' : AV} {os : List (Nat × Nd)} {m : Nat} {st' : AS} (hc : Con P E.G f ys [] 0 (Is res os m) No) (hb : borL st xs = some ys) (hp : PT res) (hp' : ∀ p ∈ os, PTNd p.2) (hr : ren (· + st.n) res = res') (hs : { st with o := shO st.n os ++ st.o, n := st.n + m } = st')
    (hk : ex P E N ds kp rest (st'.put d res') K) : callR P E N ds kp rest st K f xs d :=
  (callG_is hc hb hp hp' (by subst hr hs; exact hk)).v
theorem callR_r {f : Nat} {xs ys : List AV} {v : Value} (hc : Con P E.G f ys [] 0 (Is (.r v) [] 0) No) (hb : borL st xs = some ys) (hk : ex P E N ds kp rest (st.put d (.r v)) K) : callR P E N ds kp rest st K f xs d :=
  (callG_r hc hb hk).v
theorem callR_ro {f : Nat} {xs ys : List AV} {kk : Nat} {els : List (List AV)} (hc : Con P E.G f ys [] 0 (Is (.ro true kk els) [] 0) No) (hb : borL st xs = some ys) (hp : ∀ e ∈ els, ∀ x ∈ e, PT x) (hk : ex P E N ds kp rest (st.put d (.ro true kk els)) K) : callR P E N ds kp rest st K f xs d :=
  (callG_ro hc hb hp hk).v
theorem callR_own (σ : List Nat) {f : Nat} {xs ys : List AV} {oc os : List (Nat × Nd)} {res res' : AV} {m : Nat} {st' : AS} (hc : Con P E.G f ys oc σ.length (Is res os m) No) (hb : pasL σ st xs = some ys) (ho : okO σ st.o oc) (hall : ∀ i, i < σ.length → ∃ nd, lk oc i = some nd)
    (hlt : ∀ i ∈ σ, i < st.n) (hnd : σ.Nodup) (hbig : st.n ≤ 1000000000) (hp : PT res) (hp' : ∀ p ∈ os, PTNd p.2) (hr : ren (fw σ st.n) res = res') (hs : { st with o := mapO (fw σ st.n) os ++ rmL σ st.o, n := st.n + (m - σ.length) } = st') (hk : ex P E N ds kp rest (st'.put d res') K) : callR P E N ds kp rest st K f xs d :=
  ⟨σ, callT_of_con hc hb ho hall hlt hnd hbig (fun y o n ⟨h1, h2, h3⟩ => by subst h1 h2 h3 hr hs; exact ⟨hp, hp', hk⟩) (fun _ _ _ h => h.elim)⟩
theorem awp_r {id : Nat} {ops : Array Oper} (hd : dstOK N ops = true) (h : ∀ (K : AS → Prop) (kp : AV → AS → Prop), (∀ st', AQ .normal st' → K st') → (∀ x st', AQ (.pan x) st' → kp x st') → ex P E N (dsOf ops) kp ops.toList st K) : AWP P E N (.region id ops false) st AQ :=
  awp_rg hd rfl rfl h
theorem callR_i {f : Nat} {xs ys : List AV} {res : AV} {os : List (Nat × Nd)} {m : Nat} (hc : Con P E.G f ys [] 0 (Is res os m) No) (hb : borL st xs = some ys) (hp : PT res) (hq : ∀ p ∈ os, PTNd p.2)
    (hk : ex P E N ds kp rest ({ st with o := shO st.n os ++ st.o, n := st.n + m }.put d (ren (· + st.n) res)) K) : callR P E N ds kp rest st K f xs d := callR_is hc hb hp hq rfl rfl hk
theorem callD_i {f : Nat} {xs ys : List AV} {res : AV} {os : List (Nat × Nd)} {m : Nat} (hc : Con P E.G f ys [] 0 (Is res os m) No) (hb : borL st xs = some ys) (hp : PT res) (hq : ∀ p ∈ os, PTNd p.2)
    (hk : exD P E N ds kp tail rest ({ st with o := shO st.n os ++ st.o, n := st.n + m }.put d (ren (· + st.n) res)) K) : callD P E N ds kp tail rest st K f xs d := callG_is hc hb hp hq hk
theorem callR_q {f : Nat} {xs ys : List AV} {Q : AV → List (Nat × Nd) → Nat → Prop} (hc : Con P E.G f ys [] 0 Q No) (hb : borL st xs = some ys)
    (hk : ∀ y o m, Q y o m → PT y ∧ (∀ p ∈ o, PTNd p.2) ∧ ex P E N ds kp rest ({ st with o := shO st.n o ++ st.o, n := st.n + m }.put d (ren (· + st.n) y)) K) : callR P E N ds kp rest st K f xs d :=
  (callG_of_con hc hb hk (fun _ _ _ h => h.elim)).v
theorem callD_q {f : Nat} {xs ys : List AV} {Q : AV → List (Nat × Nd) → Nat → Prop} (hc : Con P E.G f ys [] 0 Q No) (hb : borL st xs = some ys)
    (hk : ∀ y o m, Q y o m → PT y ∧ (∀ p ∈ o, PTNd p.2) ∧ exD P E N ds kp tail rest ({ st with o := shO st.n o ++ st.o, n := st.n + m }.put d (ren (· + st.n) y)) K) : callD P E N ds kp tail rest st K f xs d :=
  callG_of_con hc hb hk (fun _ _ _ h => h.elim)
theorem callD_is {f : Nat} {xs ys : List AV} {res res' : AV} {os : List (Nat × Nd)} {m : Nat} {st' : AS} (hc : Con P E.G f ys [] 0 (Is res os m) No) (hb : borL st xs = some ys) (hp : PT res) (hp' : ∀ p ∈ os, PTNd p.2) (hr : ren (· + st.n) res = res') (hs : { st with o := shO st.n os ++ st.o, n := st.n + m } = st')
    (hk : exD P E N ds kp tail rest (st'.put d res') K) : callD P E N ds kp tail rest st K f xs d :=
  callG_is hc hb hp hp' (by subst hr hs; exact hk)
theorem callD_r {f : Nat} {xs ys : List AV} {v : Value} (hc : Con P E.G f ys [] 0 (Is (.r v) [] 0) No) (hb : borL st xs = some ys) (hk : exD P E N ds kp tail rest (st.put d (.r v)) K) : callD P E N ds kp tail rest st K f xs d :=
  callG_r hc hb hk
theorem callD_ro {f : Nat} {xs ys : List AV} {kk : Nat} {els : List (List AV)} (hc : Con P E.G f ys [] 0 (Is (.ro true kk els) [] 0) No) (hb : borL st xs = some ys) (hp : ∀ e ∈ els, ∀ x ∈ e, PT x) (hk : exD P E N ds kp tail rest (st.put d (.ro true kk els)) K) : callD P E N ds kp tail rest st K f xs d :=
  callG_ro hc hb hp hk
@[go_sem] theorem loA_ok {h : Nat} {k : IntKind} {l : Int} (h1 : 0 ≤ l) (h2 : l ≤ h) : loA h (some (.r (.int k l))) = some l.toNat := by simp [loA, h1, h2]
@[go_sem] theorem hiA_ok {len : Nat} {k : IntKind} {h : Int} (h1 : 0 ≤ h) (h2 : h ≤ len) : hiA len (some (.r (.int k h))) = some h.toNat := by simp [hiA, h1, h2]
@[go_sem] theorem loA_none (h : Nat) : loA h none = some 0 := rfl
@[go_sem] theorem hiA_none (h : Nat) : hiA h none = some h := rfl
@[go_sem] theorem nat_to1 (k : Nat) : ((k : Int) + 1).toNat = k + 1 := by omega
@[go_sem] theorem nat_ge1 (k : Nat) : ((0 : Int) ≤ (k : Int) + 1) = True := eq_true (by omega)
@[go_sem] theorem nat_to2 (k : Nat) : ((k : Int) + 2).toNat = k + 2 := by omega
@[go_sem] theorem nat_ge2 (k : Nat) : ((0 : Int) ≤ (k : Int) + 2) = True := eq_true (by omega)
@[go_sem] theorem nat_to3 (k : Nat) : ((k : Int) + 3).toNat = k + 3 := by omega
@[go_sem] theorem nat_ge3 (k : Nat) : ((0 : Int) ≤ (k : Int) + 3) = True := eq_true (by omega)
@[go_sem] theorem nat_to4 (k : Nat) : ((k : Int) + 4).toNat = k + 4 := by omega
@[go_sem] theorem nat_ge4 (k : Nat) : ((0 : Int) ≤ (k : Int) + 4) = True := eq_true (by omega)
@[go_sem] theorem nat_to5 (k : Nat) : ((k : Int) + 5).toNat = k + 5 := by omega
@[go_sem] theorem nat_ge5 (k : Nat) : ((0 : Int) ≤ (k : Int) + 5) = True := eq_true (by omega)
@[go_sem] theorem nat_to6 (k : Nat) : ((k : Int) + 6).toNat = k + 6 := by omega
@[go_sem] theorem nat_ge6 (k : Nat) : ((0 : Int) ≤ (k : Int) + 6) = True := eq_true (by omega)
@[go_sem] theorem nat_to7 (k : Nat) : ((k : Int) + 7).toNat = k + 7 := by omega
@[go_sem] theorem nat_ge7 (k : Nat) : ((0 : Int) ≤ (k : Int) + 7) = True := eq_true (by omega)
@[go_sem] theorem nat_to8 (k : Nat) : ((k : Int) + 8).toNat = k + 8 := by omega
@[go_sem] theorem nat_ge8 (k : Nat) : ((0 : Int) ≤ (k : Int) + 8) = True := eq_true (by omega)
@[go_sem] theorem take_map_len {α β : Type} (f : α → β) (l : List α) : List.take l.length (l.map f) = l.map f := List.take_of_length_le (by simp)
@[go_sem] theorem ite_le {α : Type} {a b : Nat} {x y : α} (h : a ≤ b) : (if a ≤ b then x else y) = x := if_pos h
theorem take_ge {α : Type} {n : Nat} {l : List α} (h : l.length ≤ n) : l.take n = l := List.take_of_length_le h
theorem pt_r (v : Value) : PT (.r v) = True := eq_true (.r v)
theorem pt_s (n lo len : Nat) : PT (.s n lo len) = True := eq_true (.s n lo len)
theorem pt_ro (k : Nat) (els : List (List AV)) : PT (.ro true k els) = ∀ e ∈ els, ∀ x ∈ e, PT x := propext ⟨fun h => by cases h; assumption, .ro k els⟩
theorem pt_tup (c : List AV) : PT (.tup c) = ∀ x ∈ c, PT x := propext ⟨fun h => by cases h; assumption, .tup c⟩
theorem pt_agg (c : List AV) : PT (.agg c) = ∀ x ∈ c, PT x := propext ⟨fun h => by cases h; assumption, .agg c⟩
theorem retA_intro {rs : List ResultVar} {Q R : AV → List (Nat × Nd) → Nat → Prop} {l : List AV} {y : AV} {o : List (Nat × Nd)} {n : Nat} (hl : rvsA P st rs = some l) (hq : Q y o n) (he : EmbS E N st (oneA l) o n y) : retA P E N rs Q R .ret st := by
  simp only [retA, hl]
  exact ⟨y, o, n, hq, he⟩
theorem retA_is {rs : List ResultVar} {R : AV → List (Nat × Nd) → Nat → Prop} {l : List AV} {y : AV} {o : List (Nat × Nd)} {n : Nat} (hl : rvsA P st rs = some l) (he : EmbS E N st (oneA l) o n y) : retA P E N rs (Is y o n) R .ret st := retA_intro hl ⟨rfl, rfl, rfl⟩ he
/-- The same arguments under another description. -/
theorem Con.args {G : List (Nat × List Value)} {f : Nat} {xs xs' : List AV} {o : List (Nat × Nd)} {n : Nat} {Q R : AV → List (Nat × Nd) → Nat → Prop} (hc : Con P G f xs' o n Q R) (h : ∀ w z th vs, Reps w z th xs vs → Reps w z th xs' vs) : Con P G f xs o n Q R :=
  ⟨hc.1, fun w th z own vs ho hm hr => hc.2 w th z own vs ho hm (h _ _ _ _ hr)⟩
theorem nil_ro {w : World} {z : Zone} {th : List NLoc} (t : Bool) (k : Nat) {v : Value} (h : Rep w z th (.r (.slice none 0 0)) v) : Rep w z th (.ro t k []) v := by
  rw [show v = .slice none 0 0 from h.r_inv]; exact .nil _ _ _ _ _
/-- A law's function: what the arguments bear is read alone; the world is as it was. -/
theorem law_of_con {f : Nat} {G : List (Nat × List Value)} {xs : List AV} {v : Value} (hc : Con P G f xs [] 0 (Is (.r v) [] 0) No) (w : World) (vs : List Value) (hr : Reps w (fun _ b => b < w.heap.size) [] xs vs)
    (hG : ∀ g cs, (g, cs) ∈ G → g < w.heap.size ∧ ∀ (j : Nat) u, cs[j]? = some u → w.cell? ⟨g, j, none⟩ = some u) : Calls P f vs.toArray w (fun e w' => e = .returned v ∧ Go.RowKit.Below w.heap.size w w') := by
  have hm : Mem ⟨w, fun _ => False, fun _ b => b < w.heap.size, G, []⟩ [] 0 [] (fun _ b => b < w.heap.size) w :=
    ⟨rfl, fun i nd hi => by simp [lk] at hi, fun i j x y L M hi => by simp [lk] at hi, fun _ _ h => h, Nat.le_refl _, fun _ _ _ => rfl, fun _ _ h => h, fun b h => .inl h, fun b h => h, hG, fun i L hi => by simp at hi, Sys.refl w⟩
  refine (hc.2 w [] _ (fun _ => False) vs (fun b => by simp [lk]) hm hr).mono ?_
  rintro e w' ⟨u, y, o', n', th', z', hh, hm', hv⟩
  rcases hh with ⟨rfl, rfl, rfl, rfl⟩ | ⟨_, h⟩
  · have := hv.r_inv; subst this
    exact ⟨rfl, hm'.sys.1, hm'.sys.2.1, hm'.sys.2.2, hm'.grow, fun k hk => hm'.frame k hk (fun h => h)⟩
  · exact h.elim
end
class PTf {α : Type} (f : α → List AV) : Prop where
  pt : ∀ a, ∀ x ∈ f a, PT x
theorem pt_map {α : Type} (f : α → List AV) [h : PTf f] (l : List α) : ∀ e ∈ l.map f, ∀ x ∈ e, PT x := by
  intro e he x hx
  obtain ⟨a, _, rfl⟩ := List.mem_map.1 he
  exact h.pt a x hx
@[simp] theorem ptA_eByte (a : UInt8) : (∀ x, x ∈ eByte a → PT x) = True := eq_true (by intro x hx; simp [eByte] at hx; subst hx; exact .r _)
instance : PTf eByte := ⟨fun a => of_eq_true (ptA_eByte a)⟩
attribute [simp] pt_r pt_s pt_ro pt_tup pt_agg PTNd
@[go_sem] theorem take_map2 {α β γ : Type} (f : α → β) (g : β → γ) (l : List α) : List.take l.length ((l.map f).map g) = (l.map f).map g := List.take_of_length_le (by simp)
@[go_sem] theorem take_app1 {α β : Type} (f : α → β) (l : List α) (a : β) : List.take (l.length + 1) (l.map f ++ [a]) = l.map f ++ [a] := List.take_of_length_le (by simp)
@[go_sem] theorem take_app2 {α β : Type} (f : α → β) (l : List α) (a b : β) : List.take (l.length + 2) (l.map f ++ [a, b]) = l.map f ++ [a, b] := List.take_of_length_le (by simp)
@[go_sem] theorem take_app3 {α β : Type} (f : α → β) (l : List α) (a b c : β) : List.take (l.length + 3) (l.map f ++ [a, b, c]) = l.map f ++ [a, b, c] := List.take_of_length_le (by simp)
@[go_sem] theorem take_appm {α β γ : Type} (f : α → β) (g : γ → β) (l : List α) (r : List γ) : List.take (l.length + r.length) (l.map f ++ r.map g) = l.map f ++ r.map g := List.take_of_length_le (by simp)
@[go_sem] theorem take_app1m {α β γ : Type} (f : α → β) (g : γ → β) (l : List α) (a : β) (r : List γ) : List.take (l.length + 1 + r.length) (l.map f ++ [a] ++ r.map g) = l.map f ++ [a] ++ r.map g := List.take_of_length_le (by simp; omega)
@[go_sem] theorem take_app12 {α β : Type} (f : α → β) (l : List α) (a b c : β) : List.take (l.length + 1 + 2) (l.map f ++ [a] ++ [b, c]) = l.map f ++ [a] ++ [b, c] := List.take_of_length_le (by simp)
attribute [go_sem] wrapA dsOf borL bor borC rvsA rvA List.append_eq List.toList_toArray ordOf List.filterMap_cons List.filterMap_nil
attribute [go_sem] Nat.le_refl Int.le_refl Int.cast_ofNat_Int Int.toNat_zero and_self and_true true_and true_imp_iff false_imp_iff implies_true Bool.not_true Bool.not_false cond_true cond_false decide_true decide_false beq_self_eq_true Option.map_some Option.map_none Option.bind_some List.getElem?_map List.getElem?_cons_zero List.getElem?_cons_succ List.length_cons List.length_nil List.length_map List.length_append Int.toNat_natCast Int.natCast_nonneg List.getElem?_toArray List.map_cons List.map_nil List.all_cons List.all_nil Bool.and_self Bool.or_false Bool.or_true Bool.false_or Bool.true_or Bool.and_false Bool.false_and Bool.and_true Bool.true_and List.nil_append List.cons_append List.append_nil List.drop_nil List.take_nil Nat.zero_add Nat.add_zero Nat.sub_zero List.drop_zero List.take_succ_cons List.take_zero List.drop_succ_cons
attribute [go_sem ↓] reduceIte
attribute [go_sem] Int.reduceToNat Int.reduceLE Int.reduceLT Int.reduceGT Int.reduceGE Int.reduceAdd Int.reduceSub Int.reduceMul Int.reduceNeg Int.reduceBEq Int.reduceBNe Int.reduceEq Int.reduceNe reduceCtorEq Nat.reduceEqDiff Nat.reduceAdd Nat.reduceSub Nat.reduceMul Nat.reduceLT Nat.reduceLeDiff
end Go.AM
