/- Texts of the law ExprBounds, part 3: lemmas; what is proved stands in the last text. -/
import Derived.Test.YtoecmmpjndcolaaGreatDoorZz2
import Derived.Test.YtoecmmpjndcolaaGreatDoorProg
import Derived.Test.YtoecmmpjndcolaaGreatDoorZz1
import Derived.Below
import Derived.OpenShut
import Derived.WalkKit
import Derived.ProofKit
import Derived.ChangeOld
import Derived.Deep.Strs
import Derived.Test.YtoecmmpjndcolaaGreatDoorRows
import Derived.ShutString
import Derived.Lib.SmallJoins
import Derived.JoinedCond
import Derived.SizedLaws
import Derived.Lib.Bytealg
import Derived.Lib.BytesEntry
import Derived.Lib.ReplaceLaws
set_option linter.unusedSimpArgs false
set_option linter.unusedVariables false
/- The abstract machine, 24: regions that draw their order, where what allocates is not ordered: how they are run. -/
namespace Go.AM
open Go
section
variable {P : Program} {E : Env} {N : Nat} {st : AS}
theorem awp_du {id : Nat} {ops : Array Oper} {AQ : AExit → AS → Prop} {ds : List (Option Nat)} {l l' : List Oper} (hm : P.follows .mixedOrders = true) (n : Nat) (pl : List PU) (tot : Nat) (dss zs : List Nat) (hB : okU ops n pl tot dss zs = true) (hd : dstOK N ops = true) (hds : dsOf ops = ds) (ht : ops.toList.drop n = l') (hh : ops.toList.take n = l)
    {m' : List (Nat × AV)} {M : Nat} (hf : fltM dss st.m = m') (hM : st.n + tot = M) (hbig : M + tot ≤ 1000000000) (h : ∀ (K : AS → Prop) (kp : AV → AS → Prop), (∀ st', AQ .normal st' → K st') → (∀ x st', AQ (.pan x) st' → kp x st') → exU P E N ds kp l' st.n ⟨m', st.o, M⟩ pl l 0 [] K) : AWP P E N (.region id ops true) st AQ := by
  subst hds ht hh hf
  have h := h (AQ .normal) (fun x st => AQ (.pan x) st) (fun _ h => h) (fun _ _ h => h)
  have ok := okU_spec hB
  intro Q hQ th z a w hs
  let Q' : Exit → Act → World → Prop := fun e a w => match e with
    | .panic c => ∀ a' : Act, a'.defers = a.defers → Q (.panic c) a' w
    | e => Q e a w
  refine wp_mono (Q := Q') ?_ (fun e a w hq => by
    cases e
    case panic c => exact hq a rfl
    all_goals exact hq)
  refine wp_region_any hm ?_
  have hdst := dstOK_spec hd
  obtain ⟨L, _, hL, hprop, htail⟩ := exU_out (N := N) (es := []) (j := 0) rfl (fun o ho => hdst o (List.mem_of_mem_take ho)) (fun p hp => by
    obtain ⟨i, hi⟩ := List.mem_iff_getElem?.1 hp
    have hi' : i < n := by have := (List.getElem?_eq_some_iff.1 hi).1; have := ok.len; omega
    have := ok.tot i p hi' hi
    show st.n + p.r + p.k ≤ M
    omega) h
  have hlen : (ops.toList.take n).length = n := by have := ok.le; simp; omega
  rw [hlen, Nat.zero_add] at hL
  simp only [Nat.zero_add] at hprop
  have hprop' : ∀ j, j < n → ∃ o p e, ops[j]? = some o ∧ pl[j]? = some p ∧ L[j]? = some e ∧ PropE P E N ⟨fltM dss st.m, st.o, M⟩ st.n L j o p e := by
    intro j hj
    obtain ⟨o, p, e, q1, q2, q3, q4⟩ := hprop j (by omega)
    rw [List.getElem?_take_of_lt hj] at q1
    exact ⟨o, p, e, by simpa using q1, q2, q3, q4⟩
  have hs0 := hs.ext (ext_drew w)
  have hm0 := hs.mem.len
  have inv0 : HeadInv .any ops n (Array.replicate ops.size false) :=
    ⟨by simp, fun j oj _ hl => (by rw [getD_replicate_false] at hl; cases hl), fun t _ ht => getD_in (by simpa using ht) (getD_replicate_false _ _)⟩
  have hbase : Sim E N (stE ⟨fltM dss st.m, st.o, M⟩ []) (th ++ List.replicate tot ⟨0, 0, 0, 0, false⟩) z a w.drew :=
    (hs0.more tot).sub (by show M = st.n + tot; omega) (fun i x hi => hi) (fun i x hi => (fltM_lk hi).2)
  have hE : E.th0.length ≤ st.n := by
    apply Classical.byContradiction
    intro hno
    have := hs.mem.pre st.n E.th0[st.n] (by simp [show st.n < E.th0.length by omega])
    have := (List.getElem?_eq_some_iff.1 this).1
    omega
  have key := anyU (Q := Q') (g := ops.size - n) (bs := ⟨fltM dss st.m, st.o, M⟩) (n0 := st.n) ok (fun c a d v w h a2 ha => h a2 (by rw [ha]; cases d <;> rfl)) hL hM.symm hbig hE hprop'
    (fun i x hi => by
      obtain ⟨h1, h2⟩ := fltM_lk hi
      refine ⟨h1, fun f hf => ?_⟩
      obtain ⟨y, _, hr⟩ := hs.slots i x h2
      exact hr.lt (fun i hi => hf i (by omega)))
    (fun i nd hi => by
      obtain ⟨L, h1, h2, _⟩ := hs.mem.nds i nd hi
      exact ⟨by have := (List.getElem?_eq_some_iff.1 h1).1; omega, fun f hf => h2.lt (fun i hi => hf i (by omega))⟩)
    (fun lD th' z' a' w' hin hall hsim => by
      have hsub : Sim E N (stE ⟨fltM dss st.m, st.o, M⟩ L.reverse) th' z' a' w' := by
        have hLi : ∀ e ∈ L, L[e.i]? = some e := fun e he => hin e (hall e he)
        have props : ∀ e ∈ L, ∃ o p, e.i < n ∧ ops[e.i]? = some o ∧ pl[e.i]? = some p ∧ PropE P E N ⟨fltM dss st.m, st.o, M⟩ st.n L e.i o p e := by
          intro e he
          have h1 := hLi e he
          have hlt : e.i < n := by have := (List.getElem?_eq_some_iff.1 h1).1; omega
          obtain ⟨o, p, e', q1, q2, q3, q4⟩ := hprop' e.i hlt
          rw [h1] at q3; cases q3
          exact ⟨o, p, hlt, q1, q2, q4⟩
        have back : ∀ e ∈ lD, e ∈ L := fun e he => List.mem_of_getElem? (hin e he)
        have hdist : ∀ a ∈ lD, ∀ b ∈ lD, a.d = b.d → a = b := by
          intro a ha b hb hab
          obtain ⟨o1, p1, l1, r1, r2, r3⟩ := props a (back a ha)
          obtain ⟨o2, p2, l2, t1, t2, t3⟩ := props b (back b hb)
          by_cases hne : b.i = a.i
          · have h1 := hin a ha
            have h2 := hin b hb
            rw [hne, h1] at h2; exact Option.some.inj h2
          · have := (ok.pair a.i b.i o1 p1 o2 p2 l1 l2 hne r1 r2 t1 t2).1
            rw [t3.d, r3.d, hab] at this; exact (this rfl).elim
        refine hsim.sub rfl (fun i x hi => ?_) (fun i x hi => ?_)
        · refine finO_get (fun e1 he1 y hy => ?_) ?_
          · obtain ⟨o1, p1, l1, r1, r2, r3⟩ := props e1 (back e1 he1)
            have hk1 := r3.keys _ (lk_mem hy)
            rcases lk_finO hi with ⟨e2, h1, h2⟩ | h2
            · obtain ⟨o2, p2, l2, t1, t2, t3⟩ := props e2 (List.mem_reverse.1 h1)
              have hk2 := t3.keys _ (lk_mem h2)
              by_cases hne : e2.i = e1.i
              · have g1 := hLi e2 (List.mem_reverse.1 h1)
                have g2 := hin e1 he1
                rw [hne, g2] at g1
                rw [← Option.some.inj g1, hy] at h2; exact Option.some.inj h2
              · have := (ok.pair e1.i e2.i o1 p1 o2 p2 l1 l2 hne r1 r2 t1 t2).2.2
                simp only at hk1 hk2; omega
            · obtain ⟨L', g1, _⟩ := hs.mem.nds i x h2
              have := (List.getElem?_eq_some_iff.1 g1).1
              simp only at hk1; omega
          · rcases lk_finO hi with ⟨e2, h1, h2⟩ | h2
            · exact .inl ⟨e2, hall e2 (List.mem_reverse.1 h1), h2⟩
            · exact .inr h2
        · rcases lk_finM hi with ⟨e2, h1, rfl, rfl⟩ | ⟨h1, h2⟩
          · exact finM_get (hall e2 (List.mem_reverse.1 h1)) hdist
          · show lk (finM lD _) i = _
            rw [finM_none (fun e1 he1 => h1 e1 (List.mem_reverse.2 (back e1 he1)))]; exact h2
      have := wpAny_of_seq (md := .any) (Q' := Q') (ops.toList.drop n) n ((List.range ops.size).map fun i => decide (i < n)).toArray a' w' (fun j => by simp [List.getElem?_drop]) (by simpa using ok.seq)
        (exec_sound (Q := Q') (K := AQ .normal) (kp := fun x st => AQ (.pan x) st) (fun x v st' th' z' a' w' g1 g2 g3 a2 ha => hQ.2.2.2 x v st' th' z' w' g1 g2.mem g3 a2 (ha.trans g2.dfs)) (fun st' th' z' a' w' g1 g2 => hQ.1 st' th' z' a' w' g1 g2) _ (fun o ho => hdst o (List.mem_of_mem_drop ho)) hsub (exec_of htail))
      simpa using this)
    n [] (Array.replicate ops.size false) _ z a w.drew inv0 (by simp) (by simp) (by simp) (fun i hi => by rw [getD_replicate_false]; simp) (by simp) hbase
  have e : n + (ops.size - n) = ops.size := by have := ok.le; omega
  rw [e] at key
  exact key
end
section
variable (P : Program) (E : Env) (N : Nat) (ds : List (Option Nat)) (kp : AV → AS → Prop) (tail : List Oper) (n0 : Nat) (bs : AS) (p : PU) (pl : List PU) (rest : List Oper) (j d : Nat) (es : List En) (K : AS → Prop)
def kontU (v : AV) (oo : List (Nat × Nd)) : Prop := fixU bs.n n0 p.chk v oo ∧ exU P E N ds kp tail n0 bs pl rest (j + 1) (⟨j, d, v, oo⟩ :: es) K
def goUQ (r : SR) : Prop := match r with
  | .val v _ => p.k = 0 ∧ kontU P E N ds kp tail n0 bs p pl rest j d es K v []
  | _ => False
def goUL (r : Option (Prop × TypeId × Nat × Nat × List (List AV))) : Prop := match r with
  | some (c, e, sz, len, els) => c ∧ p.k = 1 ∧ kontU P E N ds kp tail n0 bs p pl rest j d es K (.s (n0 + p.r) 0 len) [(n0 + p.r, .lst e sz els)]
  | none => False
def goUA (T : TypeId) (r : Option TY) : Prop := match r with
  | some ⟨_, _, _, some zs⟩ => p.k = 1 ∧ kontU P E N ds kp tail n0 bs p pl rest j d es K (.p (n0 + p.r) 0 0) [(n0 + p.r, .box T (zs.map .r))]
  | _ => False
def callU (R : AS) (g : Nat) (xs : List AV) : Prop := CallU P E.G R g xs (n0 + p.r) p.k (kontU P E N ds kp tail n0 bs p pl rest j d es K)
def goUC (R : AS) (f : Option AV) (xs : Option (List AV)) : Prop := match f, xs with
  | some (.fn g caps), some xs => callU P E N ds kp tail n0 bs p pl rest j d es K R g (xs ++ caps)
  | _, _ => False
def goU (q : Bool) (R : AS) (op : Op) : Prop := match q with
  | true => goUQ P E N ds kp tail n0 bs p pl rest j d es K (stepR P E.G R op)
  | false => MakesU P E R op (n0 + p.r) p.k (kontU P E N ds kp tail n0 bs p pl rest j d es K)
@[go_sem] theorem exU_nil (pl : List PU) : exU P E N ds kp tail n0 bs pl [] j es K = ex P E N ds kp tail (stE bs es) K := by cases pl <;> rfl
theorem makes_q (R : AS) (op : Op) (h : isQ op = true) (r k : Nat) (kont : AV → List (Nat × Nd) → Prop) : MakesU P E R op r k kont = (match stepR P E.G R op with | .val v _ => k = 0 ∧ kont v [] | _ => False) := by
  have key : ∀ x : Option AV, (match x with | some v => k = 0 ∧ kont v [] | none => False) = (match ofO R x with | .val v _ => k = 0 ∧ kont v [] | _ => False) := by
    intro x; cases x <;> rfl
  cases op
  case call c =>
    obtain ⟨callee, args, ats⟩ := c
    cases callee with
    | value f => simp [isQ] at h
    | builtin b => cases b <;> first | (simp [isQ] at h; done) | (rw [stepR_call_else (by simp) (by simp)]; exact key _)
    | invoke a b => simp [isQ] at h
  all_goals first | (simp [isQ] at h; done) | exact key _ | exact key none | rfl
@[go_sem] theorem exU_cons (op : Op) (t : TypeId) (pp : String) (af : Array Edge) : exU P E N ds kp tail n0 bs (p :: pl) (⟨some d, op, t, pp, af, none⟩ :: rest) j es K = goU P E N ds kp tail n0 bs p pl rest j d es K (isQ op) (stE bs (fltE p.anc es)) op := by
  have e : exU P E N ds kp tail n0 bs (p :: pl) (⟨some d, op, t, pp, af, none⟩ :: rest) j es K = MakesU P E (stE bs (fltE p.anc es)) op (n0 + p.r) p.k (kontU P E N ds kp tail n0 bs p pl rest j d es K) := by
    simp only [exU, true_and]; rfl
  rw [e]
  cases h : isQ op
  · rfl
  · exact makes_q P E _ op h _ _ _
@[go_sem] theorem goU_t (R : AS) (op : Op) : goU P E N ds kp tail n0 bs p pl rest j d es K true R op = goUQ P E N ds kp tail n0 bs p pl rest j d es K (stepR P E.G R op) := rfl
@[go_sem] theorem goU_list (R : AS) (T : TypeId) (len : Nat) (ps : Array (Nat × Operand)) : goU P E N ds kp tail n0 bs p pl rest j d es K false R (.buildSlice T len ps) = goUL P E N ds kp tail n0 bs p pl rest j d es K (lstU P E.G R (.buildSlice T len ps)) := rfl
@[go_sem] theorem goU_alloc (R : AS) (T : TypeId) : goU P E N ds kp tail n0 bs p pl rest j d es K false R (.alloc T) = goUA P E N ds kp tail n0 bs p pl rest j d es K T (tyOf P T) := rfl
@[go_sem] theorem goUA_some (T : TypeId) (k1 : TK) (s1 b1 : Nat) (zs : List Value) : goUA P E N ds kp tail n0 bs p pl rest j d es K T (some ⟨k1, s1, b1, some zs⟩) = (p.k = 1 ∧ kontU P E N ds kp tail n0 bs p pl rest j d es K (.p (n0 + p.r) 0 0) [(n0 + p.r, .box T (zs.map .r))]) := rfl
@[go_sem] theorem goU_call (R : AS) (f : Operand) (args : Array Operand) (ats : Array TypeId) : goU P E N ds kp tail n0 bs p pl rest j d es K false R (.call { callee := .value f, args := args, argTypes := ats }) = goUC P E N ds kp tail n0 bs p pl rest j d es K R (ev R E.G f) (evs R E.G args.toList) := rfl
@[go_sem] theorem goUQ_val (v : AV) (s : AS) : goUQ P E N ds kp tail n0 bs p pl rest j d es K (.val v s) = (p.k = 0 ∧ kontU P E N ds kp tail n0 bs p pl rest j d es K v []) := rfl
@[go_sem] theorem goUL_some (c : Prop) (e : TypeId) (sz len : Nat) (els : List (List AV)) : goUL P E N ds kp tail n0 bs p pl rest j d es K (some (c, e, sz, len, els)) = (c ∧ p.k = 1 ∧ kontU P E N ds kp tail n0 bs p pl rest j d es K (.s (n0 + p.r) 0 len) [(n0 + p.r, .lst e sz els)]) := rfl
@[go_sem] theorem goUC_some (R : AS) (g : Nat) (caps xs : List AV) : goUC P E N ds kp tail n0 bs p pl rest j d es K R (some (.fn g caps)) (some xs) = callU P E N ds kp tail n0 bs p pl rest j d es K R g (xs ++ caps) := rfl
@[go_sem] theorem kontU_eq (v : AV) (oo : List (Nat × Nd)) : kontU P E N ds kp tail n0 bs p pl rest j d es K v oo = (fixU bs.n n0 p.chk v oo ∧ exU P E N ds kp tail n0 bs pl rest (j + 1) (⟨j, d, v, oo⟩ :: es) K) := rfl
end
section
variable {P : Program} {E : Env} {N : Nat} {ds : List (Option Nat)} {kp : AV → AS → Prop} {tail : List Oper} {n0 : Nat} {bs : AS} {p : PU} {pl : List PU} {rest : List Oper} {j d : Nat} {es : List En} {K : AS → Prop}
theorem callU_i {R : AS} {g : Nat} {xs ys : List AV} {res : AV} {os : List (Nat × Nd)} {k : Nat} (hc : Con P E.G g ys [] 0 (Is res os k) No) (hb : borL R xs = some ys) (hp : PT res) (hq : ∀ p ∈ os, PTNd p.2)
    (hx : k = p.k ∧ (∀ x ∈ os, x.1 < p.k) ∧ (p.k = 0 → ren (· + R.n) res = ren (· + (n0 + p.r)) res) ∧ (0 < p.k → ren (by_ (rho R.n (n0 + p.r) p.k)) (ren (· + (n0 + p.r)) res) = ren (· + R.n) res ∧ mapO (by_ (rho R.n (n0 + p.r) p.k)) (shO (n0 + p.r) os) = shO R.n os))
    (hk : kontU P E N ds kp tail n0 bs p pl rest j d es K (ren (· + (n0 + p.r)) res) (shO (n0 + p.r) os)) : callU P E N ds kp tail n0 bs p pl rest j d es K R g xs := by
  obtain ⟨rfl, h1, h2, h3⟩ := hx
  exact ⟨ys, res, os, hc, hb, hp, hq, h1, h2, h3, hk⟩
@[go_sem] theorem by_rho_in {M r k i : Nat} (h : i < M) (h1 : r ≤ i) (h2 : i < r + k) : by_ (rho M r k) i = M + (i - r) := by rw [by_rho h, if_pos ⟨h1, h2⟩]
@[go_sem] theorem by_rho_lo {M r k i : Nat} (h : i < M) (h1 : i < r) : by_ (rho M r k) i = i := by rw [by_rho h, if_neg (by omega)]
@[go_sem] theorem by_rho_hi {M r k i : Nat} (h : i < M) (h1 : r + k ≤ i) : by_ (rho M r k) i = i := by rw [by_rho h, if_neg (by omega)]
end
attribute [go_sem] stE finM finO fltE fltM fixU fixO lstU pureL pureA mapO memN true_and and_true cond_true cond_false
end Go.AM
/- The abstract machine, 25: the same laws under short names; what is plain about them is found by itself. -/
namespace Go.AM
open Go
section
variable {P : Program} {E : Env} {N : Nat} {st : AS} {AQ : AExit → AS → Prop}
theorem rR {id : Nat} {ops : Array Oper} (h : ∀ (K : AS → Prop) (kp : AV → AS → Prop), (∀ st', AQ .normal st' → K st') → (∀ x st', AQ (.pan x) st' → kp x st') → ex P E N (dsOf ops) kp ops.toList st K) (hd : dstOK N ops = true := by kernel_rfl) : AWP P E N (.region id ops false) st AQ := awp_r hd h
theorem rD {id : Nat} {ops : Array Oper} {ds : List (Option Nat)} {l l' : List Oper} (hm : P.follows .mixedOrders = true) (n : Nat) (ord : List Nat)
    (h : ∀ (K : AS → Prop) (kp : AV → AS → Prop), (∀ st', AQ .normal st' → K st') → (∀ x st', AQ (.pan x) st' → kp x st') → exD P E N ds kp l' l st K)
    (hB : okDraw ops n ord = true := by kernel_rfl) (hd : dstOK N ops = true := by kernel_rfl) (hg : ((ordOf ops ord).all fun o => isG o.op) = true := by kernel_rfl)
    (hds : dsOf ops = ds := by simp only [go_sem]; rfl) (ht : ops.toList.drop n = l' := by simp only [go_sem]; rfl) (hh : ordOf ops ord = l := by simp only [go_sem]; rfl) : AWP P E N (.region id ops true) st AQ :=
  awp_dr hm n ord hB hd hg hds ht hh h
theorem rX {id : Nat} {ops : Array Oper} {ds : List (Option Nat)} {l l' : List Oper} (hm : P.follows .mixedOrders = true) (ws : List Nat) (n : Nat) (ord : List Nat)
    (h : ∀ (K : AS → Prop) (kp : AV → AS → Prop), (∀ st', AQ .normal st' → K st') → (∀ x st', AQ (.pan x) st' → kp x st') → exX P E N ws ds kp l' l st K)
    (hB : okDraw ops n ord = true := by kernel_rfl) (hd : dstOK N ops = true := by kernel_rfl)
    (hds : dsOf ops = ds := by simp only [go_sem]; rfl) (ht : ops.toList.drop n = l' := by simp only [go_sem]; rfl) (hh : ordOf ops ord = l := by simp only [go_sem]; rfl) (hws : prs ws st = true := by rfl) : AWP P E N (.region id ops true) st AQ :=
  awp_dx hm ws n ord hB hd hds ht hh hws h
theorem rU {id : Nat} {ops : Array Oper} {ds : List (Option Nat)} {l l' : List Oper} {m' : List (Nat × AV)} {M : Nat} (hm : P.follows .mixedOrders = true) (n : Nat) (pl : List PU) (tot : Nat) (dss zs : List Nat)
    (h : ∀ (K : AS → Prop) (kp : AV → AS → Prop), (∀ st', AQ .normal st' → K st') → (∀ x st', AQ (.pan x) st' → kp x st') → exU P E N ds kp l' st.n ⟨m', st.o, M⟩ pl l 0 [] K)
    (hB : okU ops n pl tot dss zs = true := by kernel_rfl) (hd : dstOK N ops = true := by kernel_rfl)
    (hds : dsOf ops = ds := by simp only [go_sem]; rfl) (ht : ops.toList.drop n = l' := by simp only [go_sem]; rfl) (hh : ops.toList.take n = l := by simp only [go_sem]; rfl)
    (hf : fltM dss st.m = m' := by simp only [go_sem]; rfl) (hM : st.n + tot = M := by simp only [go_sem]; rfl) (hbig : M + tot ≤ 1000000000 := by omega) : AWP P E N (.region id ops true) st AQ :=
  awp_du hm n pl tot dss zs hB hd hds ht hh hf hM hbig h
variable {ds : List (Option Nat)} {kp : AV → AS → Prop} {tail rest : List Oper} {K : AS → Prop} {d : Option Nat} {ws : List Nat}
theorem cR {f : Nat} {xs ys : List AV} {res : AV} {os : List (Nat × Nd)} {m : Nat} (hc : Con P E.G f ys [] 0 (Is res os m) No) (hk : ex P E N ds kp rest ({ st with o := shO st.n os ++ st.o, n := st.n + m }.put d (ren (· + st.n) res)) K)
    (hb : borL st xs = some ys := by first | (simp (implicitDefEqProofs := false) (maxSteps := 2000000) (disch := omega) only [go_sem]; first | done | rfl) | rfl | (simp (implicitDefEqProofs := false) (maxSteps := 2000000) (disch := omega) only [go_sem, *, List.map_take, List.map_drop]; first | done | rfl))
    (hp : PT res := by first | (simp [-List.map_drop, -List.map_take]; done) | exact .ro _ _ (pt_map _ _))
    (hq : ∀ p ∈ os, PTNd p.2 := by first | (simp [-List.map_drop, -List.map_take]; done) | (intro _ h; simp only [List.mem_singleton] at h; subst h; exact pt_map _ _)) : callR P E N ds kp rest st K f xs d := callR_i hc hb hp hq hk
theorem cD {f : Nat} {xs ys : List AV} {res : AV} {os : List (Nat × Nd)} {m : Nat} (hc : Con P E.G f ys [] 0 (Is res os m) No) (hk : exD P E N ds kp tail rest ({ st with o := shO st.n os ++ st.o, n := st.n + m }.put d (ren (· + st.n) res)) K)
    (hb : borL st xs = some ys := by first | (simp (implicitDefEqProofs := false) (maxSteps := 2000000) (disch := omega) only [go_sem]; first | done | rfl) | rfl | (simp (implicitDefEqProofs := false) (maxSteps := 2000000) (disch := omega) only [go_sem, *, List.map_take, List.map_drop]; first | done | rfl))
    (hp : PT res := by first | (simp [-List.map_drop, -List.map_take]; done) | exact .ro _ _ (pt_map _ _))
    (hq : ∀ p ∈ os, PTNd p.2 := by first | (simp [-List.map_drop, -List.map_take]; done) | (intro _ h; simp only [List.mem_singleton] at h; subst h; exact pt_map _ _)) : callD P E N ds kp tail rest st K f xs d := callD_i hc hb hp hq hk
theorem cX {f : Nat} {xs ys : List AV} {res : AV} {os : List (Nat × Nd)} {m : Nat} (hc : Con P E.G f ys [] 0 (Is res os m) No) (hk : exX P E N ws ds kp tail rest ({ st with o := shO st.n os ++ st.o, n := st.n + m }.put d (ren (· + st.n) res)) K)
    (hb : borL st xs = some ys := by first | (simp (implicitDefEqProofs := false) (maxSteps := 2000000) (disch := omega) only [go_sem]; first | done | rfl) | rfl | (simp (implicitDefEqProofs := false) (maxSteps := 2000000) (disch := omega) only [go_sem, *, List.map_take, List.map_drop]; first | done | rfl))
    (hp : PT res := by first | (simp [-List.map_drop, -List.map_take]; done) | exact .ro _ _ (pt_map _ _))
    (hq : ∀ p ∈ os, PTNd p.2 := by first | (simp [-List.map_drop, -List.map_take]; done) | (intro _ h; simp only [List.mem_singleton] at h; subst h; exact pt_map _ _)) : callX P E N ws ds kp tail rest st K f xs d := callX_i hc hb hp hq hk
theorem cU {n0 : Nat} {bs : AS} {p : PU} {pl : List PU} {j d : Nat} {es : List En} {R : AS} {g : Nat} {xs ys : List AV} {res : AV} {os : List (Nat × Nd)} {k : Nat} (hc : Con P E.G g ys [] 0 (Is res os k) No)
    (hk : kontU P E N ds kp tail n0 bs p pl rest j d es K (ren (· + (n0 + p.r)) res) (shO (n0 + p.r) os))
    (hb : borL R xs = some ys := by first | (simp (implicitDefEqProofs := false) (maxSteps := 2000000) (disch := omega) only [go_sem]; first | done | rfl) | rfl | (simp (implicitDefEqProofs := false) (maxSteps := 2000000) (disch := omega) only [go_sem, *, List.map_take, List.map_drop]; first | done | rfl))
    (hp : PT res := by first | (simp [-List.map_drop, -List.map_take]; done) | exact .ro _ _ (pt_map _ _))
    (hq : ∀ p ∈ os, PTNd p.2 := by first | (simp [-List.map_drop, -List.map_take]; done) | (intro _ h; simp only [List.mem_singleton] at h; subst h; exact pt_map _ _))
    (hx : k = p.k ∧ (∀ x ∈ os, x.1 < p.k) ∧ (p.k = 0 → ren (· + R.n) res = ren (· + (n0 + p.r)) res) ∧ (0 < p.k → ren (by_ (rho R.n (n0 + p.r) p.k)) (ren (· + (n0 + p.r)) res) = ren (· + R.n) res ∧ mapO (by_ (rho R.n (n0 + p.r) p.k)) (shO (n0 + p.r) os) = shO R.n os) := by simp (disch := omega) [go_sem]) :
    callU P E N ds kp tail n0 bs p pl rest j d es K R g xs := callU_i hc hb hp hq hx hk
variable {op : Op} {b w : Bool}
theorem aG (h1 : b = true → goG P E N ds kp rest st K (.ask true w) d op) (h2 : b = false → goG P E N ds kp rest st K (.ask false w) d op) : goG P E N ds kp rest st K (.ask b w) d op := goG_ask h1 h2
theorem aD (h1 : b = true → goGD P E N ds kp tail rest st K (.ask true w) d op) (h2 : b = false → goGD P E N ds kp tail rest st K (.ask false w) d op) : goGD P E N ds kp tail rest st K (.ask b w) d op := goGD_ask h1 h2
theorem aX (h1 : b = true → goGX P E N ws ds kp tail rest st K (.ask true w) d op) (h2 : b = false → goGX P E N ws ds kp tail rest st K (.ask false w) d op) : goGX P E N ws ds kp tail rest st K (.ask b w) d op := goGX_ask h1 h2
theorem iG {g : GV} (h : goG P E N ds kp rest st K g d op) : goG P E N ds kp rest st K g d op := h
theorem iD {g : GV} (h : goGD P E N ds kp tail rest st K g d op) : goGD P E N ds kp tail rest st K g d op := h
theorem iX {g : GV} (h : goGX P E N ws ds kp tail rest st K g d op) : goGX P E N ws ds kp tail rest st K g d op := h
theorem rI {rs : List ResultVar} {R : AV → List (Nat × Nd) → Nat → Prop} {l : List AV} {y : AV} {o : List (Nat × Nd)} {n : Nat} (he : EmbS E N st (oneA l) o n y) (hl : rvsA P st rs = some l := by rfl) : retA P E N rs (Is y o n) R .ret st := retA_is hl he
theorem eN {x y : AV} (hE : E.th0.length = 0) (hx : x = ren (by_ []) y) (hb : st.n ≤ 1000000000 := by simp) : EmbS E N st x [] 0 y := (embV_nil hE hb hx).s
end
theorem ifs : (∀ (p : Prop) [Decidable p], (decide p = true) = p) ∧ (∀ (p : Prop) [Decidable p], (decide p = false) = ¬ p) ∧ (∀ a b : Int, (¬ a < b) = (b ≤ a)) ∧ (∀ a b : Int, (¬ a ≤ b) = (b < a)) ∧ (∀ b : Bool, (¬ b = true) = (b = false)) ∧ (∀ b : Bool, (¬ b = false) = (b = true)) ∧
    (∀ a b : Int, ((a != b) = true) = ¬ a = b) ∧ (∀ a b : Int, ((a == b) = true) = (a = b)) ∧ (∀ a b : Int, ((a != b) = false) = (a = b)) ∧ (∀ a b : Int, ((a == b) = false) = ¬ a = b) := by
  refine ⟨fun p _ => by simp, fun p _ => by simp, fun a b => by simp, fun a b => by simp, fun b => by simp, fun b => by simp, fun a b => by simp, fun a b => by simp, fun a b => by simp, fun a b => by simp⟩
end Go.AM
/- The program's types, as a table. -/
namespace Go.AM
open Go
theorem mixed : Go.Proofs.Tryz.prog.follows .mixedOrders = true := by kernel_rfl
@[go_sem] theorem ty_2 : tyOf Go.Proofs.Tryz.prog 2 = some ⟨.int .i64, 1, 8, some [.int .i64 0]⟩ := by kernel_rfl
@[go_sem] theorem ty_3 : tyOf Go.Proofs.Tryz.prog 3 = some ⟨.int .i64, 1, 8, some [.int .i64 0]⟩ := by kernel_rfl
@[go_sem] theorem ty_4 : tyOf Go.Proofs.Tryz.prog 4 = some ⟨.bool, 1, 1, some [.bool false]⟩ := by kernel_rfl
@[go_sem] theorem ty_5 : tyOf Go.Proofs.Tryz.prog 5 = some ⟨.int .u8, 1, 1, some [.int .u8 0]⟩ := by kernel_rfl
@[go_sem] theorem ty_6 : tyOf Go.Proofs.Tryz.prog 6 = some ⟨.int .u8, 1, 1, some [.int .u8 0]⟩ := by kernel_rfl
@[go_sem] theorem ty_7 : tyOf Go.Proofs.Tryz.prog 7 = some ⟨.struct [(0, 1), (1, 1), (2, 1), (3, 1)], 4, 24, some [.int .i64 0, .int .i64 0, .bool false, .int .u8 0]⟩ := by kernel_rfl
@[go_sem] theorem ty_8 : tyOf Go.Proofs.Tryz.prog 8 = some ⟨.struct [(0, 1), (1, 1), (2, 1), (3, 1)], 4, 24, some [.int .i64 0, .int .i64 0, .bool false, .int .u8 0]⟩ := by kernel_rfl
@[go_sem] theorem ty_9 : tyOf Go.Proofs.Tryz.prog 9 = some ⟨.str, 1, 16, some [.string ⟨#[]⟩]⟩ := by kernel_rfl
@[go_sem] theorem ty_10 : tyOf Go.Proofs.Tryz.prog 10 = some ⟨.str, 1, 16, some [.string ⟨#[]⟩]⟩ := by kernel_rfl
@[go_sem] theorem ty_11 : tyOf Go.Proofs.Tryz.prog 11 = some ⟨.str, 1, 16, some [.string ⟨#[]⟩]⟩ := by kernel_rfl
@[go_sem] theorem ty_12 : tyOf Go.Proofs.Tryz.prog 12 = some ⟨.int .u64, 1, 8, some [.int .u64 0]⟩ := by kernel_rfl
@[go_sem] theorem ty_13 : tyOf Go.Proofs.Tryz.prog 13 = some ⟨.struct [(0, 1), (1, 1)], 2, 24, some [.string ⟨#[]⟩, .int .u64 0]⟩ := by kernel_rfl
@[go_sem] theorem ty_14 : tyOf Go.Proofs.Tryz.prog 14 = some ⟨.struct [(0, 1), (1, 1)], 2, 24, some [.string ⟨#[]⟩, .int .u64 0]⟩ := by kernel_rfl
@[go_sem] theorem ty_15 : tyOf Go.Proofs.Tryz.prog 15 = some ⟨.ptr 155, 1, 8, some [.pointer none]⟩ := by kernel_rfl
@[go_sem] theorem ty_16 : tyOf Go.Proofs.Tryz.prog 16 = some ⟨.ptr 158, 1, 8, some [.pointer none]⟩ := by kernel_rfl
@[go_sem] theorem ty_17 : tyOf Go.Proofs.Tryz.prog 17 = some ⟨.ptr 166, 1, 8, some [.pointer none]⟩ := by kernel_rfl
@[go_sem] theorem ty_18 : tyOf Go.Proofs.Tryz.prog 18 = some ⟨.struct [(0, 1)], 1, 8, some [.pointer none]⟩ := by kernel_rfl
@[go_sem] theorem ty_19 : tyOf Go.Proofs.Tryz.prog 19 = some ⟨.struct [(0, 1)], 1, 8, some [.pointer none]⟩ := by kernel_rfl
@[go_sem] theorem ty_20 : tyOf Go.Proofs.Tryz.prog 20 = some ⟨.ifc, 1, 16, some [.nilIface]⟩ := by kernel_rfl
@[go_sem] theorem ty_21 : tyOf Go.Proofs.Tryz.prog 21 = some ⟨.int .i32, 1, 4, some [.int .i32 0]⟩ := by kernel_rfl
@[go_sem] theorem ty_22 : tyOf Go.Proofs.Tryz.prog 22 = some ⟨.slice 48, 1, 24, some [.slice none 0 0]⟩ := by kernel_rfl
@[go_sem] theorem ty_23 : tyOf Go.Proofs.Tryz.prog 23 = some ⟨.slice 26, 1, 24, some [.slice none 0 0]⟩ := by kernel_rfl
@[go_sem] theorem ty_24 : tyOf Go.Proofs.Tryz.prog 24 = some ⟨.slice 58, 1, 24, some [.slice none 0 0]⟩ := by kernel_rfl
@[go_sem] theorem ty_25 : tyOf Go.Proofs.Tryz.prog 25 = some ⟨.struct [(0, 1), (1, 1), (2, 1)], 3, 32, some [.int .i64 0, .int .i64 0, .string ⟨#[]⟩]⟩ := by kernel_rfl
@[go_sem] theorem ty_26 : tyOf Go.Proofs.Tryz.prog 26 = some ⟨.struct [(0, 1), (1, 1), (2, 1)], 3, 32, some [.int .i64 0, .int .i64 0, .string ⟨#[]⟩]⟩ := by kernel_rfl
@[go_sem] theorem ty_27 : tyOf Go.Proofs.Tryz.prog 27 = some ⟨.int .i64, 1, 8, some [.int .i64 0]⟩ := by kernel_rfl
@[go_sem] theorem ty_34 : tyOf Go.Proofs.Tryz.prog 34 = some ⟨.slice 5, 1, 24, some [.slice none 0 0]⟩ := by kernel_rfl
@[go_sem] theorem ty_43 : tyOf Go.Proofs.Tryz.prog 43 = some ⟨.ptr 45, 1, 8, some [.pointer none]⟩ := by kernel_rfl
@[go_sem] theorem ty_44 : tyOf Go.Proofs.Tryz.prog 44 = some ⟨.struct [(0, 1), (1, 1)], 2, 48, some [.slice none 0 0, .slice none 0 0]⟩ := by kernel_rfl
@[go_sem] theorem ty_45 : tyOf Go.Proofs.Tryz.prog 45 = some ⟨.struct [(0, 1), (1, 1)], 2, 48, some [.slice none 0 0, .slice none 0 0]⟩ := by kernel_rfl
@[go_sem] theorem ty_47 : tyOf Go.Proofs.Tryz.prog 47 = some ⟨.struct [(0, 1), (1, 1)], 2, 24, some [.string ⟨#[]⟩, .int .i64 0]⟩ := by kernel_rfl
@[go_sem] theorem ty_48 : tyOf Go.Proofs.Tryz.prog 48 = some ⟨.struct [(0, 1), (1, 1)], 2, 24, some [.string ⟨#[]⟩, .int .i64 0]⟩ := by kernel_rfl
@[go_sem] theorem ty_49 : tyOf Go.Proofs.Tryz.prog 49 = some ⟨.slice 24, 1, 24, some [.slice none 0 0]⟩ := by kernel_rfl
@[go_sem] theorem ty_57 : tyOf Go.Proofs.Tryz.prog 57 = some ⟨.struct [(0, 1), (1, 3), (4, 1)], 5, 56, some [.int .i64 0, .int .i64 0, .int .i64 0, .string ⟨#[]⟩, .string ⟨#[]⟩]⟩ := by kernel_rfl
@[go_sem] theorem ty_58 : tyOf Go.Proofs.Tryz.prog 58 = some ⟨.struct [(0, 1), (1, 3), (4, 1)], 5, 56, some [.int .i64 0, .int .i64 0, .int .i64 0, .string ⟨#[]⟩, .string ⟨#[]⟩]⟩ := by kernel_rfl
@[go_sem] theorem ty_69 : tyOf Go.Proofs.Tryz.prog 69 = some ⟨.slice 9, 1, 24, some [.slice none 0 0]⟩ := by kernel_rfl
@[go_sem] theorem ty_70 : tyOf Go.Proofs.Tryz.prog 70 = some ⟨.struct [(0, 1), (1, 1), (2, 1), (3, 1), (4, 1), (5, 1), (6, 1), (7, 1), (8, 1), (9, 1), (10, 1), (11, 1)], 12, 200, some [.int .i64 0, .string ⟨#[]⟩, .slice none 0 0, .slice none 0 0, .slice none 0 0, .bool false, .slice none 0 0, .string ⟨#[]⟩, .bool false, .int .i64 0, .string ⟨#[]⟩, .slice none 0 0]⟩ := by kernel_rfl
@[go_sem] theorem ty_71 : tyOf Go.Proofs.Tryz.prog 71 = some ⟨.struct [(0, 1), (1, 1), (2, 1), (3, 1), (4, 1), (5, 1), (6, 1), (7, 1), (8, 1), (9, 1), (10, 1), (11, 1)], 12, 200, some [.int .i64 0, .string ⟨#[]⟩, .slice none 0 0, .slice none 0 0, .slice none 0 0, .bool false, .slice none 0 0, .string ⟨#[]⟩, .bool false, .int .i64 0, .string ⟨#[]⟩, .slice none 0 0]⟩ := by kernel_rfl
@[go_sem] theorem ty_85 : tyOf Go.Proofs.Tryz.prog 85 = some ⟨.arr 2 26, 6, 64, some [.int .i64 0, .int .i64 0, .string ⟨#[]⟩, .int .i64 0, .int .i64 0, .string ⟨#[]⟩]⟩ := by kernel_rfl
@[go_sem] theorem ty_91 : tyOf Go.Proofs.Tryz.prog 91 = some ⟨.slice 110, 1, 24, some [.slice none 0 0]⟩ := by kernel_rfl
@[go_sem] theorem ty_93 : tyOf Go.Proofs.Tryz.prog 93 = some ⟨.int .u64, 1, 8, some [.int .u64 0]⟩ := by kernel_rfl
@[go_sem] theorem ty_96 : tyOf Go.Proofs.Tryz.prog 96 = some ⟨.slice 3, 1, 24, some [.slice none 0 0]⟩ := by kernel_rfl
@[go_sem] theorem ty_103 : tyOf Go.Proofs.Tryz.prog 103 = some ⟨.slice 91, 1, 24, some [.slice none 0 0]⟩ := by kernel_rfl
@[go_sem] theorem ty_105 : tyOf Go.Proofs.Tryz.prog 105 = some ⟨.arr 4 9, 4, 64, some [.string ⟨#[]⟩, .string ⟨#[]⟩, .string ⟨#[]⟩, .string ⟨#[]⟩]⟩ := by kernel_rfl
@[go_sem] theorem ty_109 : tyOf Go.Proofs.Tryz.prog 109 = some ⟨.struct [(0, 1), (1, 1), (2, 1)], 3, 32, some [.int .i64 0, .string ⟨#[]⟩, .int .i64 0]⟩ := by kernel_rfl
@[go_sem] theorem ty_110 : tyOf Go.Proofs.Tryz.prog 110 = some ⟨.struct [(0, 1), (1, 1), (2, 1)], 3, 32, some [.int .i64 0, .string ⟨#[]⟩, .int .i64 0]⟩ := by kernel_rfl
@[go_sem] theorem ty_118 : tyOf Go.Proofs.Tryz.prog 118 = some ⟨.arr 30 9, 30, 480, some [.string ⟨#[]⟩, .string ⟨#[]⟩, .string ⟨#[]⟩, .string ⟨#[]⟩, .string ⟨#[]⟩, .string ⟨#[]⟩, .string ⟨#[]⟩, .string ⟨#[]⟩, .string ⟨#[]⟩, .string ⟨#[]⟩, .string ⟨#[]⟩, .string ⟨#[]⟩, .string ⟨#[]⟩, .string ⟨#[]⟩, .string ⟨#[]⟩, .string ⟨#[]⟩, .string ⟨#[]⟩, .string ⟨#[]⟩, .string ⟨#[]⟩, .string ⟨#[]⟩, .string ⟨#[]⟩, .string ⟨#[]⟩, .string ⟨#[]⟩, .string ⟨#[]⟩, .string ⟨#[]⟩, .string ⟨#[]⟩, .string ⟨#[]⟩, .string ⟨#[]⟩, .string ⟨#[]⟩, .string ⟨#[]⟩]⟩ := by kernel_rfl
@[go_sem] theorem ty_124 : tyOf Go.Proofs.Tryz.prog 124 = some ⟨.ptr 126, 1, 8, some [.pointer none]⟩ := by kernel_rfl
@[go_sem] theorem ty_125 : tyOf Go.Proofs.Tryz.prog 125 = some ⟨.struct [(0, 1), (1, 1)], 2, 32, some [.pointer none, .slice none 0 0]⟩ := by kernel_rfl
@[go_sem] theorem ty_126 : tyOf Go.Proofs.Tryz.prog 126 = some ⟨.struct [(0, 1), (1, 1)], 2, 32, some [.pointer none, .slice none 0 0]⟩ := by kernel_rfl
@[go_sem] theorem ty_128 : tyOf Go.Proofs.Tryz.prog 128 = some ⟨.ifc, 1, 16, some [.nilIface]⟩ := by kernel_rfl
@[go_sem] theorem ty_129 : tyOf Go.Proofs.Tryz.prog 129 = some ⟨.ifc, 1, 16, some [.nilIface]⟩ := by kernel_rfl
@[go_sem] theorem ty_138 : tyOf Go.Proofs.Tryz.prog 138 = some ⟨.arr 12 9, 12, 192, some [.string ⟨#[]⟩, .string ⟨#[]⟩, .string ⟨#[]⟩, .string ⟨#[]⟩, .string ⟨#[]⟩, .string ⟨#[]⟩, .string ⟨#[]⟩, .string ⟨#[]⟩, .string ⟨#[]⟩, .string ⟨#[]⟩, .string ⟨#[]⟩, .string ⟨#[]⟩]⟩ := by kernel_rfl
@[go_sem] theorem ty_140 : tyOf Go.Proofs.Tryz.prog 140 = some ⟨.arr 11 9, 11, 176, some [.string ⟨#[]⟩, .string ⟨#[]⟩, .string ⟨#[]⟩, .string ⟨#[]⟩, .string ⟨#[]⟩, .string ⟨#[]⟩, .string ⟨#[]⟩, .string ⟨#[]⟩, .string ⟨#[]⟩, .string ⟨#[]⟩, .string ⟨#[]⟩]⟩ := by kernel_rfl
@[go_sem] theorem ty_143 : tyOf Go.Proofs.Tryz.prog 143 = some ⟨.ptr 5, 1, 8, some [.pointer none]⟩ := by kernel_rfl
@[go_sem] theorem ty_146 : tyOf Go.Proofs.Tryz.prog 146 = some ⟨.int .u64, 1, 8, some [.int .u64 0]⟩ := by kernel_rfl
@[go_sem] theorem ty_148 : tyOf Go.Proofs.Tryz.prog 148 = some ⟨.struct [(0, 1), (1, 1)], 2, 2, some [.int .u8 0, .int .u8 0]⟩ := by kernel_rfl
@[go_sem] theorem ty_149 : tyOf Go.Proofs.Tryz.prog 149 = some ⟨.struct [(0, 1), (1, 1)], 2, 2, some [.int .u8 0, .int .u8 0]⟩ := by kernel_rfl
@[go_sem] theorem ty_150 : tyOf Go.Proofs.Tryz.prog 150 = some ⟨.arr 16 149, 32, 32, some [.int .u8 0, .int .u8 0, .int .u8 0, .int .u8 0, .int .u8 0, .int .u8 0, .int .u8 0, .int .u8 0, .int .u8 0, .int .u8 0, .int .u8 0, .int .u8 0, .int .u8 0, .int .u8 0, .int .u8 0, .int .u8 0, .int .u8 0, .int .u8 0, .int .u8 0, .int .u8 0, .int .u8 0, .int .u8 0, .int .u8 0, .int .u8 0, .int .u8 0, .int .u8 0, .int .u8 0, .int .u8 0, .int .u8 0, .int .u8 0, .int .u8 0, .int .u8 0]⟩ := by kernel_rfl
@[go_sem] theorem ty_151 : tyOf Go.Proofs.Tryz.prog 151 = some ⟨.int .u32, 1, 4, some [.int .u32 0]⟩ := by kernel_rfl
@[go_sem] theorem ty_154 : tyOf Go.Proofs.Tryz.prog 154 = some ⟨.struct [(0, 1), (1, 1), (2, 1), (3, 1)], 4, 40, some [.pointer none, .pointer none, .pointer none, .string ⟨#[]⟩]⟩ := by kernel_rfl
@[go_sem] theorem ty_155 : tyOf Go.Proofs.Tryz.prog 155 = some ⟨.struct [(0, 1), (1, 1), (2, 1), (3, 1)], 4, 40, some [.pointer none, .pointer none, .pointer none, .string ⟨#[]⟩]⟩ := by kernel_rfl
@[go_sem] theorem ty_156 : tyOf Go.Proofs.Tryz.prog 156 = some ⟨.arr 0 16, 0, 0, some []⟩ := by kernel_rfl
@[go_sem] theorem ty_157 : tyOf Go.Proofs.Tryz.prog 157 = some ⟨.struct [(0, 0)], 0, 0, some []⟩ := by kernel_rfl
@[go_sem] theorem ty_158 : tyOf Go.Proofs.Tryz.prog 158 = some ⟨.struct [(0, 0)], 0, 0, some []⟩ := by kernel_rfl
@[go_sem] theorem ty_160 : tyOf Go.Proofs.Tryz.prog 160 = some ⟨.int .u8, 1, 1, some [.int .u8 0]⟩ := by kernel_rfl
@[go_sem] theorem ty_161 : tyOf Go.Proofs.Tryz.prog 161 = some ⟨.int .u8, 1, 1, some [.int .u8 0]⟩ := by kernel_rfl
@[go_sem] theorem ty_163 : tyOf Go.Proofs.Tryz.prog 163 = some ⟨.int .i32, 1, 4, some [.int .i32 0]⟩ := by kernel_rfl
@[go_sem] theorem ty_164 : tyOf Go.Proofs.Tryz.prog 164 = some ⟨.int .i32, 1, 4, some [.int .i32 0]⟩ := by kernel_rfl
@[go_sem] theorem ty_165 : tyOf Go.Proofs.Tryz.prog 165 = some ⟨.struct [(0, 1), (1, 1), (2, 1), (3, 1), (4, 1), (5, 1), (6, 1), (7, 1), (8, 1), (9, 1), (10, 1)], 11, 48, some [.int .u64 0, .int .u64 0, .int .u32 0, .int .u8 0, .int .u8 0, .int .u8 0, .int .u8 0, .nilFunc, .pointer none, .int .i32 0, .int .i32 0]⟩ := by kernel_rfl
@[go_sem] theorem ty_166 : tyOf Go.Proofs.Tryz.prog 166 = some ⟨.struct [(0, 1), (1, 1), (2, 1), (3, 1), (4, 1), (5, 1), (6, 1), (7, 1), (8, 1), (9, 1), (10, 1)], 11, 48, some [.int .u64 0, .int .u64 0, .int .u32 0, .int .u8 0, .int .u8 0, .int .u8 0, .int .u8 0, .nilFunc, .pointer none, .int .i32 0, .int .i32 0]⟩ := by kernel_rfl
@[go_sem] theorem et_7 : etTop Go.Proofs.Tryz.prog 7 = some (.str [(0, 1, .prim (.int .i64)), (1, 1, .prim (.int .i64)), (2, 1, .prim .bool), (3, 1, .prim (.int .u8))]) := by kernel_rfl
@[go_sem] theorem et_8 : etTop Go.Proofs.Tryz.prog 8 = some (.str [(0, 1, .prim (.int .i64)), (1, 1, .prim (.int .i64)), (2, 1, .prim .bool), (3, 1, .prim (.int .u8))]) := by kernel_rfl
@[go_sem] theorem et_25 : etTop Go.Proofs.Tryz.prog 25 = some (.str [(0, 1, .prim (.int .i64)), (1, 1, .prim (.int .i64)), (2, 1, .prim .str)]) := by kernel_rfl
@[go_sem] theorem et_26 : etTop Go.Proofs.Tryz.prog 26 = some (.str [(0, 1, .prim (.int .i64)), (1, 1, .prim (.int .i64)), (2, 1, .prim .str)]) := by kernel_rfl
@[go_sem] theorem et_47 : etTop Go.Proofs.Tryz.prog 47 = some (.str [(0, 1, .prim .str), (1, 1, .prim (.int .i64))]) := by kernel_rfl
@[go_sem] theorem et_48 : etTop Go.Proofs.Tryz.prog 48 = some (.str [(0, 1, .prim .str), (1, 1, .prim (.int .i64))]) := by kernel_rfl
@[go_sem] theorem et_57 : etTop Go.Proofs.Tryz.prog 57 = some (.str [(0, 1, .prim (.int .i64)), (1, 3, .str [(0, 1, .prim (.int .i64)), (1, 1, .prim (.int .i64)), (2, 1, .prim .str)]), (4, 1, .prim .str)]) := by kernel_rfl
@[go_sem] theorem et_58 : etTop Go.Proofs.Tryz.prog 58 = some (.str [(0, 1, .prim (.int .i64)), (1, 3, .str [(0, 1, .prim (.int .i64)), (1, 1, .prim (.int .i64)), (2, 1, .prim .str)]), (4, 1, .prim .str)]) := by kernel_rfl
@[go_sem] theorem et_109 : etTop Go.Proofs.Tryz.prog 109 = some (.str [(0, 1, .prim (.int .i64)), (1, 1, .prim .str), (2, 1, .prim (.int .i64))]) := by kernel_rfl
@[go_sem] theorem et_110 : etTop Go.Proofs.Tryz.prog 110 = some (.str [(0, 1, .prim (.int .i64)), (1, 1, .prim .str), (2, 1, .prim (.int .i64))]) := by kernel_rfl
@[go_sem] theorem et_148 : etTop Go.Proofs.Tryz.prog 148 = some (.str [(0, 1, .prim (.int .u8)), (1, 1, .prim (.int .u8))]) := by kernel_rfl
@[go_sem] theorem et_149 : etTop Go.Proofs.Tryz.prog 149 = some (.str [(0, 1, .prim (.int .u8)), (1, 1, .prim (.int .u8))]) := by kernel_rfl
end Go.AM
/- The abstract machine, 19: slices that came in, as what is read. -/
namespace Go.AM
open Go Go.ChangeShapes Go.WideShapes Go.ChangeAt Go.RowKit
theorem add_none_ (a : Addr) (n : Nat) (h : a.spot = none) : a.add n = ⟨a.block, a.off + n, none⟩ := by
  unfold Addr.add
  split
  · rename_i h0; subst h0; cases a; simp_all
  · rfl
/-- All that lies. -/
def zAll (w : World) : Zone := fun _ b => b < w.heap.size
theorem open_ro {H α : Type} {E : TypeId × Value → H} {P : Program} {w : World} {base : Nat} {spare : Nat → Bool} {held : Bool} {k fuel : Nat} {t e : TypeId} {cs : List Value} {x : DataW H × List MemPlace}
    (enc : α → List AV) (R : α → DataW H → Prop) (tt : Bool) (ht : P.underlying t = some (.slice e)) (hk : P.cellsOf e = k) (hk0 : 0 < k)
    (leaf : ∀ fuel cs x, DataW.trod E P w base spare held fuel e cs = some x → ∃ y, Reps w (zAll w) [] (enc y) cs ∧ (∀ v ∈ cs, v.oneCell' = true) ∧ R y x.1)
    (h : DataW.trod E P w base spare held fuel t cs = some x) :
    ∃ (v : Value) (l : List α), cs = [v] ∧ Rep w (zAll w) [] (.ro tt k (l.map enc)) v ∧ v.oneCell' = true ∧
      ((l = [] ∧ x.1 = .nil) ∨ ∃ ds rest, x.1 = .slice ds rest ∧ ds.length = l.length ∧ ∀ (i : Nat) y, l[i]? = some y → ∃ d, ds[i]? = some d ∧ R y d) := by
  rcases DataW.trod_slice ht h with ⟨rfl, rfl⟩ | ⟨a, len, cap, elems, rest, n, _, rfl, rfl, hb, hl, hm, hlen, hel, -, -⟩
  · exact ⟨_, [], rfl, .nil _ _ _ _ _, rfl, .inl ⟨rfl, rfl⟩⟩
  have hy : ∀ i : Fin len, ∃ y cs', w.cells? base (a.add (i.1 * k)) k = some cs' ∧ Reps w (zAll w) [] (enc y) cs' ∧ (∀ v ∈ cs', v.oneCell' = true) ∧ ∃ d, (elems.map (·.1))[i.1]? = some d ∧ R y d := fun ⟨i, hi⟩ => by
    have h1 := hel i hi
    rw [List.getElem?_eq_getElem (by omega), hk] at h1
    obtain ⟨cs', h2, h3⟩ := Option.bind_eq_some_iff.1 h1
    obtain ⟨y, h4, h5, hR⟩ := leaf _ _ _ h3
    exact ⟨y, cs', h2, h4, h5, _, by simp [show i < elems.length by omega], hR⟩
  obtain ⟨f, hf⟩ := Classical.axiomOfChoice hy
  obtain ⟨g, hg⟩ := Classical.axiomOfChoice hf
  refine ⟨_, List.ofFn f, rfl, ?_, rfl, .inr ⟨_, _, rfl, by simp [hlen], fun i y hi => ?_⟩⟩
  · by_cases h0 : len = 0
    · subst h0; simp only [List.ofFn_zero, List.map_nil]; exact .nil _ _ _ _ _
    have c0 := hg ⟨0, by omega⟩
    obtain ⟨_, l0, g0⟩ := World.cells?_some c0.1
    have g1 := g0 0 hk0
    rw [List.getElem?_eq_getElem (by omega)] at g1
    have hs : a.spot = none := by
      simp only [Nat.zero_mul] at g1
      have e0 : (a.add 0).add 0 = a := by simp [Addr.add]
      rw [e0] at g1
      unfold World.cell? at g1
      split at g1
      · split at g1
        · cases g1
        · rename_i h5; simpa using h5
      · cases g1
    have hlt : a.block < w.heap.size := by
      have := World.block_lt_of_cell? _ _ g1
      simpa [Addr.add] using this
    have ha : a = ⟨a.block, a.off, none⟩ := by cases a; simp_all
    have hlk : ∀ i : Fin len, (g i).length = k := fun i => (World.cells?_some (hg i).1).2.1
    have hmem : ∀ (i : Nat) (e : List AV), ((List.ofFn f).map enc)[i]? = some e → ∃ h : i < len, e = enc (f ⟨i, h⟩) := by
      intro i e hi
      rw [List.getElem?_map, List.getElem?_ofFn] at hi
      split at hi
      · rename_i h; exact ⟨h, by simpa using hi.symm⟩
      · simp at hi
    have key : ∀ (i : Nat) (e : List AV) (j : Nat) (x : AV), ((List.ofFn f).map enc)[i]? = some e → e[j]? = some x → ∃ (h : i < len) (y : Value), (g ⟨i, h⟩)[j]? = some y ∧ Rep w (zAll w) [] x y ∧ w.cell? ⟨a.block, a.off + i * k + j, none⟩ = some y := by
      intro i e j x hi hj
      obtain ⟨h, rfl⟩ := hmem i e hi
      obtain ⟨y, h1, h2⟩ := (hg ⟨i, h⟩).2.1.get hj
      refine ⟨h, y, h1, h2, ?_⟩
      obtain ⟨_, l1, g2⟩ := World.cells?_some (hg ⟨i, h⟩).1
      have hj' : j < k := by rw [← hlk ⟨i, h⟩]; exact (List.getElem?_eq_some_iff.1 h1).1
      have g3 := g2 j hj'
      rw [add_none_ a _ hs, add_none_ _ _ rfl] at g3
      rw [← h1, ← g3]
    have hlen2 : ((List.ofFn f).map enc).length = len := by simp
    let ys : Nat → Nat → Value := fun i j => if h : i < len then ((g ⟨i, h⟩)[j]?).getD undef else undef
    have hys : ∀ {i j : Nat} (h : i < len) {y : Value}, (g ⟨i, h⟩)[j]? = some y → ys i j = y := by
      intro i j h y hy; simp only [ys]; rw [dif_pos h, hy]; rfl
    have hro := Rep.ro (w := w) (z := zAll w) [] tt k ((List.ofFn f).map enc) a.block a.off cap ys hlt (by rw [hlen2]; exact hl) (fun i e hi => by obtain ⟨h, rfl⟩ := hmem i e hi; rw [← (hg ⟨i, h⟩).2.1.1]; exact hlk _)
      (fun i e j x hi hj => by obtain ⟨h, y, h1, _, h3⟩ := key i e j x hi hj; rw [hys h h1]; exact h3)
      (fun i e j x hi hj => by obtain ⟨h, y, h1, _, _⟩ := key i e j x hi hj; rw [hys h h1]; exact (hg ⟨i, h⟩).2.2.1 y (List.mem_of_getElem? h1))
      (fun i e j x hi hj => by obtain ⟨h, y, h1, h2, _⟩ := key i e j x hi hj; rw [hys h h1]; exact h2)
    rw [hlen2, ← ha] at hro
    exact hro
  · obtain ⟨hi', rfl⟩ : ∃ h : i < len, f ⟨i, h⟩ = y := by
      rw [List.getElem?_ofFn] at hi
      split at hi
      · rename_i h; exact ⟨h, by simpa using hi⟩
      · cases hi
    exact (hg ⟨i, hi'⟩).2.2.2
theorem rep1 {w : World} {z : Zone} {th : List NLoc} {x : AV} {v : Value} (h : Rep w z th x v) : Reps w z th [x] [v] := .cons h .nil
end Go.AM
/- The abstract machine, 20: contracts of the old form; arguments that say less. -/
namespace Go.AM
open Go
section
variable {P : Program}
/-- What lies in the tables. -/
def Globs (G : List (Nat × List Value)) (w : World) : Prop := ∀ g cs, (g, cs) ∈ G → g < w.heap.size ∧ ∀ (j : Nat) u, cs[j]? = some u → w.cell? ⟨g, j, none⟩ = some u
/-- A contract of the old form: a plain value; what was there is as it was. -/
theorem con_of_calls {f : Nat} {G : List (Nat × List Value)} {xs : List AV} {v : Value} (hok : okFn P f = true)
    (h : ∀ (w : World) (z : Zone) (vs : List Value), (∀ t b, z t b → b < w.heap.size) → Reps w z [] xs vs → Globs G w → Calls P f vs.toArray w (fun e w' => e = .returned v ∧ Go.RowKit.Below w.heap.size w w')) : Con P G f xs [] 0 (Is (.r v) [] 0) No := by
  refine ⟨hok, fun w th z own vs ho hm hr => ?_⟩
  have hth : th = [] := List.length_eq_zero_iff.1 hm.len
  subst hth
  refine (h w z vs hm.zlt hr (fun g cs hg => ⟨hm.zlt _ _ (hm.globs g cs hg).1, (hm.globs g cs hg).2⟩)).mono ?_
  rintro e w' ⟨rfl, hb⟩
  refine ⟨v, .r v, [], 0, [], z, .inl ⟨rfl, rfl, rfl, rfl⟩, ?_, .r _ _⟩
  refine ⟨rfl, fun i nd hi => by simp [lk] at hi, fun i j x y L M hi => by simp [lk] at hi, fun t b hz => Nat.lt_of_lt_of_le (hm.zlt t b hz) hb.size, hb.size, fun b hlt _ => hb.block b hlt, fun t b h => h, fun b h => .inl h, fun b h => h, ?_, fun i L hi => by simp at hi, ⟨hb.os, hb.tape, hb.output⟩⟩
  intro g cs hg
  obtain ⟨h1, h2⟩ := hm.globs g cs hg
  exact ⟨h1, fun j u hu => (cell_heap (hb.block g (hm.zlt _ _ h1)) j).trans (h2 j u hu)⟩
mutual
/-- The second says no more than the first: a nil slice is a slice without elements; what is read for good is read. -/
def wk : AV → AV → Prop
  | .r (.slice none 0 0), .ro _ _ [] => True
  | .agg a, .agg b => wkL a b
  | x, y => x = y
def wkL : List AV → List AV → Prop
  | [], [] => True
  | x :: a, y :: b => wk x y ∧ wkL a b
  | _, _ => False
end
variable {w : World} {z : Zone} {th : List NLoc}
mutual
theorem wk_rep : ∀ {x y : AV} {v : Value}, wk x y → Rep w z th x v → Rep w z th y v
  | .r u, y, v, h, hr => by
    unfold wk at h
    split at h
    · rename_i t k e; cases e; exact nil_ro _ _ hr
    · rename_i a b e; cases e
    · subst h; exact hr
  | .agg a, y, v, h, hr => by
    unfold wk at h
    split at h
    · rename_i e; cases e
    · rename_i a' b e; cases e
      obtain ⟨ys, rfl, hc⟩ := hr.agg_inv
      have := wkL_rep h hc
      exact .agg _ _ _ this.1 this.2
    · subst h; exact hr
  | .ro t k e, y, v, h, hr => by simp [wk] at h; subst h; exact hr
  | .re t c o, y, v, h, hr => by simp [wk] at h; subst h; exact hr
  | .s n l k, y, v, h, hr => by simp [wk] at h; subst h; exact hr
  | .p n i o, y, v, h, hr => by simp [wk] at h; subst h; exact hr
  | .tup c, y, v, h, hr => by simp [wk] at h; subst h; exact hr
  | .fn f c, y, v, h, hr => by simp [wk] at h; subst h; exact hr
  | .ifc t c, y, v, h, hr => by simp [wk] at h; subst h; exact hr
theorem wkL_rep : ∀ {x y : List AV} {vs : List Value}, wkL x y → Reps w z th x vs → Reps w z th y vs
  | [], [], vs, _, hr => hr
  | x :: a, y :: b, vs, h, hr => by
    unfold wkL at h
    obtain ⟨v, r, rfl, h1, h2⟩ := hr.head
    exact .cons (wk_rep h.1 h1) (wkL_rep h.2 h2)
  | [], _ :: _, _, h, _ => by simp [wkL] at h
  | _ :: _, [], _, h, _ => by simp [wkL] at h
end
theorem Con.weak {G : List (Nat × List Value)} {f : Nat} {xs xs' : List AV} {o : List (Nat × Nd)} {n : Nat} {Q R : AV → List (Nat × Nd) → Nat → Prop} (hc : Con P G f xs' o n Q R) (h : wkL xs xs') : Con P G f xs o n Q R :=
  hc.args (fun _ _ _ _ hr => wkL_rep h hr)
end
end Go.AM
/- Plain data of the program, as cells. -/
namespace Go.AM
open Go
structure V where
  k : Int
  n : Int
  s : ByteArray
def eV (x : V) : List AV := [.r (.int .i64 x.k), .r (.int .i64 x.n), .r (.string x.s)]
def sameV (x y : V) : Bool := x.k == y.k && (x.n == y.n && x.s.toList == y.s.toList)
def sameVs : List V → List V → Bool
  | [], [] => true
  | x :: r, y :: q => sameV x y && sameVs r q
  | _, _ => false
theorem drop_at {α : Type} {l : List α} {k : Nat} {x : α} (h : l[k]? = some x) : l.drop k = x :: l.drop (k + 1) := by
  obtain ⟨hk, rfl⟩ := List.getElem?_eq_some_iff.1 h
  exact List.drop_eq_getElem_cons hk
theorem sameVs_len : ∀ {a b : List V}, sameVs a b = true → a.length = b.length
  | [], [], _ => rfl
  | x :: r, y :: q, h => by simp [sameVs] at h; simp [sameVs_len h.2]
  | [], _ :: _, h => by simp [sameVs] at h
  | _ :: _, [], h => by simp [sameVs] at h
def eI (n : Int) : List AV := [.r (.int .i64 n)]
def eStr (s : ByteArray) : List AV := [.r (.string s)]
/-- A column. -/
structure CO where
  nm : ByteArray
  k : Int
def eC (c : CO) : List AV := [.r (.string c.nm), .r (.int .i64 c.k)]
/-- A token. -/
structure TK0 where
  k : Int
  s : ByteArray
  n : Int
def eT (t : TK0) : List AV := [.r (.int .i64 t.k), .r (.string t.s), .r (.int .i64 t.n)]
@[simp] theorem ptA_eV (a : V) : (∀ x, x ∈ eV a → PT x) = True := eq_true (by intro x hx; simp [eV] at hx; rcases hx with rfl | rfl | rfl <;> exact .r _)
@[simp] theorem ptA_eT (a : TK0) : (∀ x, x ∈ eT a → PT x) = True := eq_true (by intro x hx; simp [eT] at hx; rcases hx with rfl | rfl | rfl <;> exact .r _)
@[simp] theorem ptA_eI (a : Int) : (∀ x, x ∈ eI a → PT x) = True := eq_true (by intro x hx; simp [eI] at hx; subst hx; exact .r _)
@[simp] theorem ptA_eC (a : CO) : (∀ x, x ∈ eC a → PT x) = True := eq_true (by intro x hx; simp [eC] at hx; rcases hx with rfl | rfl <;> exact .r _)
@[simp] theorem ptA_eStr (a : ByteArray) : (∀ x, x ∈ eStr a → PT x) = True := eq_true (by intro x hx; simp [eStr] at hx; subst hx; exact .r _)
instance : PTf eV := ⟨fun a => of_eq_true (ptA_eV a)⟩
instance : PTf eT := ⟨fun a => of_eq_true (ptA_eT a)⟩
instance : PTf eI := ⟨fun a => of_eq_true (ptA_eI a)⟩
instance : PTf eC := ⟨fun a => of_eq_true (ptA_eC a)⟩
instance : PTf eStr := ⟨fun a => of_eq_true (ptA_eStr a)⟩
theorem pt_eV : ∀ {l : List V}, ∀ e ∈ l.map eV, ∀ x ∈ e, PT x := by
  intro l e he x hx
  obtain ⟨a, _, rfl⟩ := List.mem_map.1 he
  simp [eV] at hx; rcases hx with rfl | rfl | rfl <;> exact .r _
theorem pt_eT {l : List TK0} : ∀ e ∈ l.map eT, ∀ x ∈ e, PT x := by
  intro e he x hx
  obtain ⟨a, _, rfl⟩ := List.mem_map.1 he
  simp [eT] at hx; rcases hx with rfl | rfl | rfl <;> exact .r _
theorem pt_eByte {l : List UInt8} : ∀ e ∈ l.map eByte, ∀ x ∈ e, PT x := by
  intro e he x hx
  obtain ⟨a, _, rfl⟩ := List.mem_map.1 he
  simp [eByte] at hx; subst hx; exact .r _
theorem pt_eI {l : List Int} : ∀ e ∈ l.map eI, ∀ x ∈ e, PT x := by
  intro e he x hx
  obtain ⟨a, _, rfl⟩ := List.mem_map.1 he
  simp [eI] at hx; subst hx; exact .r _
end Go.AM
/- Statements: plain laws; contracts of what the walks of old have shown. -/
namespace Go.AM
open Go Go.RowKit
open Go.Proofs.YtoecmmpjndcolaaGreatDoor (OP nameM litM exprM marksS wordsS StrsAt str)
attribute [local irreducible] AWP retA
def eO (o : OP) : List AV := [.r (.int .i64 o.k), .r (.int .i64 o.vk), .r (.int .i64 o.vn), .r (.string o.vs), .r (.string o.nm)]
/-- A statement. -/
structure ST where
  k : Int
  tab : ByteArray
  cols : List CO
  row : List V
  names : List ByteArray
  count : Bool
  wh : List OP
  ord : ByteArray
  down : Bool
  lim : Int
  set : ByteArray
  to : List OP
def eST (s : ST) : List AV := [.r (.int .i64 s.k), .r (.string s.tab), .ro true 2 (s.cols.map eC), .ro true 3 (s.row.map eV), .ro true 1 (s.names.map eStr), .r (.bool s.count), .ro true 5 (s.wh.map eO), .r (.string s.ord), .r (.bool s.down), .r (.int .i64 s.lim), .r (.string s.set), .ro true 5 (s.to.map eO)]
def colsFrom : List CO → List CO → Int
  | _, [] => 0
  | p, c :: r => if nameM c.nm ≠ 0 then nameM c.nm else if c.k < 1 ∨ 3 < c.k then 2 else if p.any (fun x => x.nm.toList == c.nm.toList) then 9 else colsFrom (p ++ [c]) r
def colsM (l : List CO) : Int := if l.length < 1 ∨ 6 < l.length then 1 else colsFrom [] l
def rowFrom : List V → Int
  | [] => 0
  | v :: r => if litM v.k v.n v.s ≠ 0 then litM v.k v.n v.s else rowFrom r
def rowM (l : List V) : Int := if l.length < 1 ∨ 6 < l.length then 1 else rowFrom l
def namesM : List ByteArray → Int
  | [] => 0
  | s :: r => if nameM s ≠ 0 then nameM s else namesM r
def whereM (l : List OP) : Int := if l.length = 0 then 0 else exprM l
/-- The package's tables. -/
def typesV : List ByteArray := [str [], str [66, 79, 79, 76], str [73, 78, 84], str [84, 69, 88, 84]]
structure Tabs (G : List (Nat × List Value)) : Prop where
  marks : (3, marksS.map .string) ∈ G
  words : (2, wordsS.map .string) ∈ G
  types : lk G 0 = some (typesV.map .string)
theorem strs_of {G : List (Nat × List Value)} {w : World} {g : Nat} {ss : List ByteArray} (h : Globs G w) (hm : (g, ss.map .string) ∈ G) : StrsAt w g ss ∧ g < w.heap.size :=
  ⟨fun j hj => (h _ _ hm).2 j _ (by simp [hj]), (h _ _ hm).1⟩
/-- What may be the size of a text. -/
abbrev okS (s : ByteArray) : Prop := s.size ≤ maxLen
theorem name_con {G : List (Nat × List Value)} (T : Tabs G) (s : ByteArray) (hs : okS s) : Con Go.Proofs.Tryz.prog G 80 [.r (.string s)] [] 0 (Is (.r (.int .i64 (nameM s))) [] 0) No :=
  con_of_calls (by kernel_rfl) (fun w z vs hz hr hG => by
    obtain ⟨v, r, rfl, h1, h2⟩ := hr.head
    obtain rfl := h1.r_inv
    obtain rfl := h2.of_nil
    obtain ⟨m1, m2⟩ := strs_of hG T.marks
    obtain ⟨w1, w2⟩ := strs_of hG T.words
    exact Go.Proofs.YtoecmmpjndcolaaGreatDoor.name_any s w hs m1 m2 w1 w2)
theorem nameFault_con (G : List (Nat × List Value)) (s : ByteArray) (hs : okS s) : Con Go.Proofs.Tryz.prog G 76 [.r (.string s)] [] 0 (Is (.r (.int .i64 (nameM s))) [] 0) No :=
  con_of_calls (by kernel_rfl) (fun w z vs hz hr hG => by
    obtain ⟨v, r, rfl, h1, h2⟩ := hr.head
    obtain rfl := h1.r_inv
    obtain rfl := h2.of_nil
    exact Go.Proofs.YtoecmmpjndcolaaGreatDoor.nameFault_any s w hs)
theorem agg_r {w : World} {z : Zone} {th : List NLoc} {us : List Value} {v : Value} (h : Rep w z th (.agg (us.map .r)) v) : v = .agg us.toArray := by
  obtain ⟨ys, rfl, hc⟩ := h.agg_inv
  have : ys = us := by
    apply List.ext_getElem?
    intro i
    cases hi : us[i]? with
    | none => rw [List.getElem?_eq_none_iff] at hi ⊢; rw [hc.1]; simpa using hi
    | some u =>
      obtain ⟨y, h1, h2⟩ := hc.get (show (us.map AV.r)[i]? = some (.r u) by rw [List.getElem?_map, hi]; rfl)
      rw [h1, h2.r_inv]
  rw [this]
theorem lit_con (G : List (Nat × List Value)) (v : V) (hs : okS v.s) : Con Go.Proofs.Tryz.prog G 79 [.agg (eV v)] [] 0 (Is (.r (.int .i64 (litM v.k v.n v.s))) [] 0) No :=
  con_of_calls (by kernel_rfl) (fun w z vs hz hr hG => by
    obtain ⟨u, r, rfl, h1, h2⟩ := hr.head
    obtain rfl := agg_r (us := [.int .i64 v.k, .int .i64 v.n, .string v.s]) h1
    obtain rfl := h2.of_nil
    exact Go.Proofs.YtoecmmpjndcolaaGreatDoor.lit_any v.k v.n v.s w hs)
theorem litFault_con (G : List (Nat × List Value)) (v : V) (hs : okS v.s) : Con Go.Proofs.Tryz.prog G 86 [.agg (eV v)] [] 0 (Is (.r (.int .i64 (litM v.k v.n v.s))) [] 0) No :=
  con_of_calls (by kernel_rfl) (fun w z vs hz hr hG => by
    obtain ⟨u, r, rfl, h1, h2⟩ := hr.head
    obtain rfl := agg_r (us := [.int .i64 v.k, .int .i64 v.n, .string v.s]) h1
    obtain rfl := h2.of_nil
    exact Go.Proofs.YtoecmmpjndcolaaGreatDoor.litFault_any v.k v.n v.s w hs)
end Go.AM
/- How arguments that came in read: lemmas out of the kit's readings, in the walks' own terms. -/
namespace Go.Proofs.YtoecmmpjndcolaaGreatDoor
open Go.ChangeShapes Go.WideShapes Go.ChangeAt Go.RowKit
theorem cellsValue : Tryz.prog.cellsOf 26 = 3 := by kernel_rfl
set_option maxRecDepth 100000 in
/-- A struct api.Value that came in: its three fields. -/
theorem open_value {H : Type} {enc : TypeId × Value → H} {w : World} {base : Nat} {spare : Nat → Bool} {held : Bool} {b0 : Nat} {v : Value} {d : DataW H} {p : List MemPlace}
    (hv : Value.okWide Tryz.prog w .any b0 26 v) (h : DataW.Trod enc Tryz.prog w base spare held 26 v d p) :
    ∃ (k n : Int) (s : ByteArray), v = .agg #[.int .i64 k, .int .i64 n, .string s] ∧ (Lit.int .i64 k).wf = true ∧ (Lit.int .i64 n).wf = true ∧ s.size ≤ maxLen := by
  obtain ⟨c0, c1, c2, y0, y1, y2, m, rfl, _, _, h0, h1, h2⟩ := Joins.open_agg3 Tryz.underlying26 (by kernel_rfl) cellsValue hv h
  obtain ⟨k, e0, _, w0⟩ := DataW.trod_int Tryz.underlying3 h0
  obtain ⟨n, e1, _, w1⟩ := DataW.trod_int Tryz.underlying3 h1
  obtain ⟨s, e2, _, w2⟩ := DataW.trod_string Tryz.underlying9 h2
  simp at e0 e1 e2
  subst e0 e1 e2
  exact ⟨k, n, s, rfl, w0, w1, w2⟩
set_option maxRecDepth 100000 in
theorem open_i64 {H : Type} {enc : TypeId × Value → H} {w : World} {base : Nat} {spare : Nat → Bool} {held : Bool} {b0 : Nat} {v : Value} {d : DataW H} {p : List MemPlace}
    (hv : Value.okWide Tryz.prog w .any b0 3 v) (h : DataW.Trod enc Tryz.prog w base spare held 3 v d p) : ∃ n : Int, v = .int .i64 n ∧ (Lit.int .i64 n).wf = true := by
  obtain ⟨n, rfl, _, _, w0⟩ := open_int Tryz.underlying3 hv h
  exact ⟨n, rfl, w0⟩
theorem i64_bd {n : Int} (h : (Lit.int .i64 n).wf = true) : -9223372036854775808 ≤ n ∧ n ≤ 9223372036854775807 := by
  simp [Lit.wf, IntKind.min, IntKind.max, IntKind.signed, IntKind.bits] at h
  omega
end Go.Proofs.YtoecmmpjndcolaaGreatDoor
/- How bytes that came in read; bulk. -/
namespace Go.Proofs.YtoecmmpjndcolaaGreatDoor
open Go.ChangeShapes Go.WideShapes Go.ChangeAt Go.RowKit Go.AM
theorem bulk_one {H : Type} (d : DataW H) : 1 ≤ Rows.uptoBulk d := by
  cases d with
  | lit l => cases l <;> simp [Rows.uptoBulk]
  | nil => simp [Rows.uptoBulk]
  | ptr d => simp [Rows.uptoBulk]
  | slice elems spare => simp [Rows.uptoBulk]
  | agg parts => simp [Rows.uptoBulk]
  | iface t d => simp [Rows.uptoBulk]
  | map entries => simp [Rows.uptoBulk]
  | held h => simp [Rows.uptoBulk]
theorem bulk_length {H : Type} : ∀ l : List (DataW H), l.length ≤ Rows.uptoBulkAll l
  | [] => by simp [Rows.uptoBulkAll]
  | x :: r => by have := bulk_one x; have := bulk_length r; simp only [Rows.uptoBulkAll, List.length_cons]; omega
theorem bulk_slice {H : Type} (ds rest : List (DataW H)) : ds.length + 1 ≤ Rows.uptoBulk (.slice ds rest) := by
  have := bulk_length ds
  simp only [Rows.uptoBulk]; omega
theorem bulk_bound {H : Type} {l : List (DataW H)} (hk : Rows.uptoSmall H l = true) : Rows.uptoBulkAll l ≤ 1048576 := of_decide_eq_true hk
theorem bulk_of {H α : Type} {l : List α} {R : α → DataW H → Prop} {d : DataW H} (h : (l = [] ∧ d = .nil) ∨ ∃ ds rest, d = .slice ds rest ∧ ds.length = l.length ∧ ∀ (i : Nat) y, l[i]? = some y → ∃ d, ds[i]? = some d ∧ R y d) : l.length ≤ Rows.uptoBulk d := by
  rcases h with ⟨rfl, _⟩ | ⟨ds, rest, rfl, h, _⟩
  · exact Nat.zero_le _
  · have := bulk_slice ds rest; omega
end Go.Proofs.YtoecmmpjndcolaaGreatDoor
/- What the listed variables hold; how columns that came in read. -/
namespace Go.Proofs.YtoecmmpjndcolaaGreatDoor
open Go.ChangeShapes Go.WideShapes Go.ChangeAt Go.RowKit Go.AM
def typesL : List (List UInt8) := [[], [66, 79, 79, 76], [73, 78, 84], [84, 69, 88, 84]]
theorem gTypes : Tryz.prog.globalNamed "padlock/parse.types" = some 0 := by kernel_rfl
theorem gTypesT : (Tryz.prog.globals[0]?).map (·.type) = some 105 := by kernel_rfl
set_option maxRecDepth 100000 in
theorem types_head {W : World} {rest : List (String × DataW Unit)} {ps : List MemPlace} (h : DataW.LaidVars Tryz.prog W (("padlock/parse.types", Rows.laid_padlock_parse_types) :: rest) ps) :
    (∀ j : Nat, j < 4 → W.cell? ⟨0, j, none⟩ = some (.string (str (typesL.getD j [])))) ∧ 0 < W.heap.size ∧ ∃ q, DataW.LaidVars Tryz.prog W rest q := by
  obtain ⟨g, t, cs, fuel, p, q, hg, ht, hvar, hd, hr, _⟩ := h
  obtain rfl := Option.some.inj (gTypes.symm.trans hg)
  obtain rfl := Option.some.inj (gTypesT.symm.trans ht)
  have e : (Rows.laid_padlock_parse_types : DataW Unit) = .agg (typesL.map fun l => .lit (.string l)) := rfl
  rw [e] at hd
  obtain ⟨h1, h2⟩ := arrS Tryz.underlying105 Tryz.underlying9 (by kernel_rfl) hd
  have hc : ∀ j : Nat, j < 4 → W.cell? ⟨0, j, none⟩ = some (.string (str (typesL.getD j []))) := fun j hj => by
    rw [World.var?_cell gTypes hvar]
    have := h2 j hj
    rwa [Array.getElem?_toList] at this
  refine ⟨hc, ?_, q, hr⟩
  have h0 := hc 0 (by decide)
  rcases Nat.lt_or_ge 0 W.heap.size with h | h
  · exact h
  · simp [World.cell?, Array.getElem?_eq_none h] at h0
/-- The package's tables. -/
def GT : List (Nat × List Value) := [(0, typesV.map .string), (3, marksS.map .string), (2, wordsS.map .string)]
theorem tabsGT : Tabs GT := ⟨by simp [GT], by simp [GT], rfl⟩
theorem tabs_all {W : World} (h : laidMetH Tryz.prog [("padlock/lex.marks", Rows.laid_padlock_lex_marks), ("padlock/parse.words", Rows.laid_padlock_parse_words), ("padlock/parse.types", Rows.laid_padlock_parse_types)] W) : Globs GT W := by
  obtain ⟨ps, h, _⟩ := h
  obtain ⟨h1, h2, q, h3⟩ := marks_head h
  obtain ⟨h4, h5, q2, h6⟩ := words_head h3
  obtain ⟨h7, h8, _⟩ := types_head h6
  intro g cs hg
  simp only [GT, List.mem_cons, Prod.mk.injEq, List.not_mem_nil, or_false] at hg
  rcases hg with ⟨rfl, rfl⟩ | ⟨rfl, rfl⟩ | ⟨rfl, rfl⟩
  · refine ⟨h8, fun j u hu => ?_⟩
    have hj : j < 4 := by have := (List.getElem?_eq_some_iff.1 hu).1; simpa [typesV] using this
    rw [h7 j hj, ← hu]
    match j, hj with
    | 0, _ => rfl
    | 1, _ => rfl
    | 2, _ => rfl
    | 3, _ => rfl
  · refine ⟨h2, fun j u hu => ?_⟩
    have hj := (List.getElem?_eq_some_iff.1 hu).1
    rw [List.length_map] at hj
    rw [h1 j hj, ← hu, List.getElem?_map, List.getD, List.getElem?_eq_getElem hj]; rfl
  · refine ⟨h5, fun j u hu => ?_⟩
    have hj := (List.getElem?_eq_some_iff.1 hu).1
    rw [List.length_map] at hj
    rw [h4 j hj, ← hu, List.getElem?_map, List.getD, List.getElem?_eq_getElem hj]; rfl
theorem cellsCol : Tryz.prog.cellsOf 48 = 2 := by kernel_rfl
set_option maxRecDepth 100000 in
theorem leaf_col {H : Type} {E : TypeId × Value → H} {w : World} {base : Nat} {spare : Nat → Bool} {held : Bool} (fuel : Nat) (cs : List Value) (x : DataW H × List MemPlace)
    (h : DataW.trod E Tryz.prog w base spare held fuel 48 cs = some x) : ∃ y : CO, Reps w (zAll w) [] (eC y) cs ∧ (∀ v ∈ cs, v.oneCell' = true) ∧ okS y.nm := by
  obtain ⟨y0, y1, n, _, hl, h0, h1⟩ := trod_struct2 Tryz.underlying48 h
  rw [cellsCol] at hl
  obtain ⟨c0, c1, rfl⟩ : ∃ a b, cs = [a, b] := by
    match cs, hl with
    | [a, b], _ => exact ⟨a, b, rfl⟩
  obtain ⟨s, e0, _, w0⟩ := DataW.trod_string Tryz.underlying9 h0
  obtain ⟨k, e1, _, _⟩ := DataW.trod_int Tryz.underlying3 h1
  rw [show Tryz.prog.cellsOf 9 = 1 by kernel_rfl] at e0
  rw [show Tryz.prog.cellsOf 3 = 1 by kernel_rfl] at e1
  simp at e0 e1
  subst e0 e1
  exact ⟨⟨s, k⟩, .cons (.r _ _) (.cons (.r _ _) .nil), by simp [Value.oneCell'], w0⟩
set_option maxRecDepth 100000 in
/-- Columns that came in. -/
theorem open_cols {H : Type} {E : TypeId × Value → H} {w : World} {base : Nat} {spare : Nat → Bool} {held : Bool} {b0 : Nat} {v : Value} {d : DataW H} {p : List MemPlace}
    (hv : Value.okWide Tryz.prog w .any b0 22 v) (h : DataW.Trod E Tryz.prog w base spare held 22 v d p) :
    ∃ l : List CO, Rep w (zAll w) [] (.ro true 2 (l.map eC)) v ∧ l.length ≤ Rows.uptoBulk d ∧ ∀ c ∈ l, okS c.nm := by
  obtain ⟨f, hf⟩ := h
  obtain ⟨u, l, h1, h2, _, h3⟩ := open_ro eC (fun y _ => okS y.nm) true Tryz.underlying22 cellsCol (by omega) leaf_col hf
  obtain ⟨a', n', c', rfl⟩ := okWide_slice Tryz.underlying22 hv
  obtain rfl : Value.slice a' n' c' = u := List.head_eq_of_cons_eq (show [Value.slice a' n' c'] = [u] from h1)
  refine ⟨l, h2, bulk_of h3, fun c hc => ?_⟩
  obtain ⟨i, hi⟩ := List.mem_iff_getElem?.1 hc
  rcases h3 with ⟨rfl, _⟩ | ⟨ds, rest, _, _, h6⟩
  · simp at hi
  · exact (h6 i c hi).choose_spec.2
end Go.Proofs.YtoecmmpjndcolaaGreatDoor
/- How values that came in read. -/
namespace Go.Proofs.YtoecmmpjndcolaaGreatDoor
open Go.ChangeShapes Go.WideShapes Go.ChangeAt Go.RowKit Go.AM
theorem cellsVal : Tryz.prog.cellsOf 26 = 3 := by kernel_rfl
set_option maxRecDepth 100000 in
theorem leaf_val {H : Type} {E : TypeId × Value → H} {w : World} {base : Nat} {spare : Nat → Bool} {held : Bool} (fuel : Nat) (cs : List Value) (x : DataW H × List MemPlace)
    (h : DataW.trod E Tryz.prog w base spare held fuel 26 cs = some x) : ∃ y : V, Reps w (zAll w) [] (eV y) cs ∧ (∀ v ∈ cs, v.oneCell' = true) ∧ y.s.size ≤ maxLen := by
  obtain ⟨y0, y1, y2, n, _, hl, h0, h1, h2⟩ := Deep.trod_struct3 Tryz.underlying26 h
  rw [cellsVal] at hl
  obtain ⟨c0, c1, c2, rfl⟩ : ∃ a b c, cs = [a, b, c] := by
    match cs, hl with
    | [a, b, c], _ => exact ⟨a, b, c, rfl⟩
  obtain ⟨k, e0, _, _⟩ := DataW.trod_int Tryz.underlying3 h0
  obtain ⟨m, e1, _, _⟩ := DataW.trod_int Tryz.underlying3 h1
  obtain ⟨s, e2, _, w0⟩ := DataW.trod_string Tryz.underlying9 h2
  rw [show Tryz.prog.cellsOf 3 = 1 by kernel_rfl] at e0 e1
  rw [show Tryz.prog.cellsOf 9 = 1 by kernel_rfl] at e2
  simp at e0 e1 e2
  subst e0 e1 e2
  exact ⟨⟨k, m, s⟩, .cons (.r _ _) (.cons (.r _ _) (.cons (.r _ _) .nil)), by simp [Value.oneCell'], w0⟩
set_option maxRecDepth 100000 in
/-- Values that came in. -/
theorem open_values {H : Type} {E : TypeId × Value → H} {w : World} {base : Nat} {spare : Nat → Bool} {held : Bool} {b0 : Nat} {v : Value} {d : DataW H} {p : List MemPlace}
    (hv : Value.okWide Tryz.prog w .any b0 23 v) (h : DataW.Trod E Tryz.prog w base spare held 23 v d p) :
    ∃ l : List V, Rep w (zAll w) [] (.ro true 3 (l.map eV)) v ∧ l.length ≤ Rows.uptoBulk d ∧ ∀ c ∈ l, c.s.size ≤ maxLen := by
  obtain ⟨f, hf⟩ := h
  obtain ⟨u, l, h1, h2, _, h3⟩ := open_ro eV (fun y _ => y.s.size ≤ maxLen) true Tryz.underlying23 cellsVal (by omega) leaf_val hf
  obtain ⟨a', n', c', rfl⟩ := okWide_slice Tryz.underlying23 hv
  obtain rfl : Value.slice a' n' c' = u := List.head_eq_of_cons_eq (show [Value.slice a' n' c'] = [u] from h1)
  refine ⟨l, h2, bulk_of h3, fun c hc => ?_⟩
  obtain ⟨i, hi⟩ := List.mem_iff_getElem?.1 hc
  rcases h3 with ⟨rfl, _⟩ | ⟨ds, rest, _, _, h6⟩
  · simp at hi
  · exact (h6 i c hi).choose_spec.2
end Go.Proofs.YtoecmmpjndcolaaGreatDoor
/- Statements: the program's columns, tokens and lists. -/
namespace Go.AM
open Go Go.RowKit
open Go.Proofs.YtoecmmpjndcolaaGreatDoor (OP nameM litM exprM marksS wordsS StrsAt str)
attribute [local irreducible] AWP retA
def idxM {α : Type} (p : α → Bool) : List α → Nat → Int
  | [], _ => -1
  | x :: r, k => if p x = true then (k : Int) else idxM p r (k + 1)
theorem idxM_any {α : Type} (p : α → Bool) : ∀ (l : List α) (k : Nat), decide (idxM p l k ≥ 0) = l.any p
  | [], k => by simp [idxM]
  | x :: r, k => by
    unfold idxM
    by_cases e : p x = true
    · simp [e]
    · rw [if_neg e, idxM_any p r (k + 1)]; simp [e]
set_option maxRecDepth 100000 in
theorem indexFuncC_con (G : List (Nat × List Value)) (t : Bool) (l : List CO) (g : Nat) (caps : List AV) (p : CO → Bool) (hl : l.length ≤ 1048576) (hcap : ∀ st, borL st caps = some caps) (hren : ∀ f, renL f caps = caps) (hf : ∀ G x, Con Go.Proofs.Tryz.prog G g (.agg (eC x) :: caps) [] 0 (Is (.r (.bool (p x))) [] 0) No) :
    Con Go.Proofs.Tryz.prog G 64 [.ro t 2 (l.map eC), .fn g caps] [] 0 (Is (.r (.int .i64 (idxM p l 0))) [] 0) No := by
  refine con_of_awp Go.Proofs.Tryz.func64 rfl (by kernel_rfl) (of_decide_eq_true (by kernel_rfl)) ?_; intro E hG hE; subst hG; simp only [ent]
  (repeat' (first | refine awp_seq ?_ | refine awp_block ?_ | refine awp_skip ?_ | refine awp_exit ?_ | ((first | refine rR (fun K kp hK hkp => ?_) | refine iG ?_); simp (implicitDefEqProofs := false) (maxSteps := 2000000) (disch := omega) only [go_sem]; (repeat' (first | (refine hK _ ?_; clear hK hkp kp K) | (with_reducible refine And.intro ?_ ?_) | omega))) | ((first | refine aG (fun h => ?_) (fun h => ?_) | refine aD (fun h => ?_) (fun h => ?_) | refine aX (fun h => ?_) (fun h => ?_)) <;> simp only [h]) | refine awp_cond_t rfl ?_ | refine awp_cond_f rfl ?_ | ((refine awp_cond rfl (fun h => ?_) (fun h => ?_) <;> try simp only [ifs] at h) <;> (try (exfalso; omega))) | refine awp_ret ?_))
  refine awp_loop (fun k : Nat => ⟨[(8, .r (.int .i64 k)), (7, .r (.int .i64 l.length)), (0, .ro t 2 (l.map eC)), (1, .fn g caps)], [], 0⟩) (fun k => k ≤ l.length ∧ idxM p (l.drop k) k = idxM p l 0) (fun k => l.length - k) 0 ?_ ?_ ?_
  · simp
  · (refine emb [] ?_ ?_ rfl ?_ ?_ ?_ ?_ <;> simp [okM, okO, lk, ren, renL, renNd, by_, hE, hren] <;> (try omega))
  intro k ⟨hk, hno⟩
  by_cases hk' : k < l.length
  · obtain ⟨x, hx⟩ : ∃ x, l[k]? = some x := ⟨l[k], by simp [hk']⟩
    have hd := drop_at hx
    rw [hd, idxM] at hno
    have hfx := hf E.G x
    simp only [eC] at hfx
    (repeat' (first | refine awp_seq ?_ | refine awp_block ?_ | refine awp_skip ?_ | refine awp_exit ?_ | ((first | refine rR (fun K kp hK hkp => ?_) | refine cR hfx ?_ | refine iG ?_); simp (implicitDefEqProofs := false) (maxSteps := 2000000) (disch := omega) only [go_sem, hx, eC, hcap]; (repeat' (first | (refine hK _ ?_; clear hK hkp kp K) | (with_reducible refine And.intro ?_ ?_) | omega))) | ((first | refine aG (fun h => ?_) (fun h => ?_) | refine aD (fun h => ?_) (fun h => ?_) | refine aX (fun h => ?_) (fun h => ?_)) <;> simp only [h]) | refine awp_cond_t rfl ?_ | refine awp_cond_f rfl ?_ | ((refine awp_cond rfl (fun h => ?_) (fun h => ?_) <;> try simp only [ifs] at h) <;> (try (exfalso; omega))) | refine awp_ret ?_))
    · (refine retA_is (by (simp (implicitDefEqProofs := false) (maxSteps := 2000000) (disch := omega) only [go_sem, Go.Proofs.Tryz.results64]); rfl) ?_; refine eN hE ?_; simp [oneA, ren, renL])
      rw [← hno, if_pos h]
    · ((first | (refine nextB (k + 1) ?_ ?_ ?_) | (refine nextA (k + 1) ?_ ?_ ?_)); rotate_left; (· (try dsimp only); (first | omega | (simp only [List.length_drop, List.length_cons, List.length_append]; omega) | (simp; done) | (simp; omega))); (· (refine emb [] ?_ ?_ rfl ?_ ?_ ?_ ?_ <;> simp [okM, okO, lk, ren, renL, renNd, by_, hE, hren] <;> (try omega))))
      exact ⟨by omega, by rw [← hno, if_neg (by simp [h])]⟩
  · (repeat' (first | refine awp_seq ?_ | refine awp_block ?_ | refine awp_skip ?_ | refine awp_exit ?_ | ((first | refine rR (fun K kp hK hkp => ?_) | refine iG ?_); simp (implicitDefEqProofs := false) (maxSteps := 2000000) (disch := omega) only [go_sem]; (repeat' (first | (refine hK _ ?_; clear hK hkp kp K) | (with_reducible refine And.intro ?_ ?_) | omega))) | ((first | refine aG (fun h => ?_) (fun h => ?_) | refine aD (fun h => ?_) (fun h => ?_) | refine aX (fun h => ?_) (fun h => ?_)) <;> simp only [h]) | refine awp_cond_t rfl ?_ | refine awp_cond_f rfl ?_ | ((refine awp_cond rfl (fun h => ?_) (fun h => ?_) <;> try simp only [ifs] at h) <;> (try (exfalso; omega))) | refine awp_ret ?_))
    (refine retA_is (by (simp (implicitDefEqProofs := false) (maxSteps := 2000000) (disch := omega) only [go_sem, Go.Proofs.Tryz.results64]); rfl) ?_; refine eN hE ?_; simp [oneA, ren, renL])
    rw [← hno, List.drop_of_length_le (by omega)]; rfl
set_option maxRecDepth 100000 in
theorem containsFuncC_con (G : List (Nat × List Value)) (t : Bool) (l : List CO) (g : Nat) (caps : List AV) (p : CO → Bool) (hl : l.length ≤ 1048576) (hcap : ∀ st, borL st caps = some caps) (hren : ∀ f, renL f caps = caps) (hf : ∀ G x, Con Go.Proofs.Tryz.prog G g (.agg (eC x) :: caps) [] 0 (Is (.r (.bool (p x))) [] 0) No) :
    Con Go.Proofs.Tryz.prog G 113 [.ro t 2 (l.map eC), .fn g caps] [] 0 (Is (.r (.bool (l.any p))) [] 0) No := by
  refine con_of_awp Go.Proofs.Tryz.func113 rfl (by kernel_rfl) (of_decide_eq_true (by kernel_rfl)) ?_; intro E hG hE; subst hG; simp only [ent]
  have hi := indexFuncC_con E.G t l g caps p hl hcap hren hf
  (repeat' (first | refine awp_seq ?_ | refine awp_block ?_ | refine awp_skip ?_ | refine awp_exit ?_ | ((first | refine rR (fun K kp hK hkp => ?_) | refine cR hi ?_ | refine iG ?_); simp (implicitDefEqProofs := false) (maxSteps := 2000000) (disch := omega) only [go_sem, hcap]; (repeat' (first | (refine hK _ ?_; clear hK hkp kp K) | (with_reducible refine And.intro ?_ ?_) | omega))) | ((first | refine aG (fun h => ?_) (fun h => ?_) | refine aD (fun h => ?_) (fun h => ?_) | refine aX (fun h => ?_) (fun h => ?_)) <;> simp only [h]) | refine awp_cond_t rfl ?_ | refine awp_cond_f rfl ?_ | ((refine awp_cond rfl (fun h => ?_) (fun h => ?_) <;> try simp only [ifs] at h) <;> (try (exfalso; omega))) | refine awp_ret ?_))
  (refine retA_is (by (simp (implicitDefEqProofs := false) (maxSteps := 2000000) (disch := omega) only [go_sem, Go.Proofs.Tryz.results113]); rfl) ?_; refine eN hE ?_; simp [oneA, ren, renL])
  exact idxM_any p l 0
def sameN (c x : CO) : Bool := x.nm.toList == c.nm.toList
set_option maxRecDepth 100000 in
theorem cols1_con (u : Bool) (c : CO) (G : List (Nat × List Value)) (x : CO) : Con Go.Proofs.Tryz.prog G 114 [.agg (eC x), .re u (eC c) 0] [] 0 (Is (.r (.bool (sameN c x))) [] 0) No := by
  refine con_of_awp Go.Proofs.Tryz.func114 rfl (by kernel_rfl) (of_decide_eq_true (by kernel_rfl)) ?_; intro E hG hE; subst hG; simp only [ent]
  (repeat' (first | refine awp_seq ?_ | refine awp_block ?_ | refine awp_skip ?_ | refine awp_exit ?_ | ((first | refine rR (fun K kp hK hkp => ?_) | refine iG ?_); simp (implicitDefEqProofs := false) (maxSteps := 2000000) (disch := omega) only [go_sem, eC]; (repeat' (first | (refine hK _ ?_; clear hK hkp kp K) | (with_reducible refine And.intro ?_ ?_) | omega))) | ((first | refine aG (fun h => ?_) (fun h => ?_) | refine aD (fun h => ?_) (fun h => ?_) | refine aX (fun h => ?_) (fun h => ?_)) <;> simp only [h]) | refine awp_cond_t rfl ?_ | refine awp_cond_f rfl ?_ | ((refine awp_cond rfl (fun h => ?_) (fun h => ?_) <;> try simp only [ifs] at h) <;> (try (exfalso; omega))) | refine awp_ret ?_))
  (refine retA_is (by (simp (implicitDefEqProofs := false) (maxSteps := 2000000) (disch := omega) only [go_sem, Go.Proofs.Tryz.results114, sameN]); rfl) ?_; refine eN hE ?_; simp [oneA, ren, renL, sameN])
theorem colsFrom_step {l : List CO} {k : Nat} {c : CO} (h : l[k]? = some c) : colsFrom (l.take k) (l.drop k) = if nameM c.nm ≠ 0 then nameM c.nm else if c.k < 1 ∨ 3 < c.k then 2 else if (l.take k).any (sameN c) then 9 else colsFrom (l.take (k + 1)) (l.drop (k + 1)) := by
  rw [drop_at h, colsFrom, List.take_add_one, h]; rfl
set_option maxRecDepth 100000 in
set_option maxHeartbeats 4000000 in
theorem cols_con {G : List (Nat × List Value)} (T : Tabs G) (t : Bool) (l : List CO) (hl : l.length ≤ 1048576) (hs : ∀ c ∈ l, okS c.nm) : Con Go.Proofs.Tryz.prog G 87 [.ro t 2 (l.map eC)] [] 0 (Is (.r (.int .i64 (colsM l))) [] 0) No := by
  refine con_of_awp Go.Proofs.Tryz.func87 rfl (by kernel_rfl) (of_decide_eq_true (by kernel_rfl)) ?_; intro E hG hE; subst hG; simp only [ent]
  by_cases h1 : l.length < 1
  · have d1 : decide ((l.length : Int) < 1) = true := decide_eq_true (by omega)
    (repeat' (first | refine awp_seq ?_ | refine awp_block ?_ | refine awp_skip ?_ | refine awp_exit ?_ | ((first | refine rR (fun K kp hK hkp => ?_) | refine iG ?_); simp (implicitDefEqProofs := false) (maxSteps := 2000000) (disch := omega) only [go_sem, d1]; (repeat' (first | (refine hK _ ?_; clear hK hkp kp K) | (with_reducible refine And.intro ?_ ?_) | omega))) | ((first | refine aG (fun h => ?_) (fun h => ?_) | refine aD (fun h => ?_) (fun h => ?_) | refine aX (fun h => ?_) (fun h => ?_)) <;> simp only [h]) | refine awp_cond_t rfl ?_ | refine awp_cond_f rfl ?_ | ((refine awp_cond rfl (fun h => ?_) (fun h => ?_) <;> try simp only [ifs] at h) <;> (try (exfalso; omega))) | refine awp_ret ?_))
    (refine retA_is (by (simp (implicitDefEqProofs := false) (maxSteps := 2000000) (disch := omega) only [go_sem, Go.Proofs.Tryz.results87, colsM, h1]); rfl) ?_; refine eN hE ?_; simp [oneA, ren, renL, colsM, h1])
  have d1 : decide ((l.length : Int) < 1) = false := decide_eq_false (by omega)
  by_cases h6 : 6 < l.length
  · have d2 : decide ((l.length : Int) > 6) = true := decide_eq_true (by omega)
    (repeat' (first | refine awp_seq ?_ | refine awp_block ?_ | refine awp_skip ?_ | refine awp_exit ?_ | ((first | refine rR (fun K kp hK hkp => ?_) | refine iG ?_); simp (implicitDefEqProofs := false) (maxSteps := 2000000) (disch := omega) only [go_sem, d1, d2]; (repeat' (first | (refine hK _ ?_; clear hK hkp kp K) | (with_reducible refine And.intro ?_ ?_) | omega))) | ((first | refine aG (fun h => ?_) (fun h => ?_) | refine aD (fun h => ?_) (fun h => ?_) | refine aX (fun h => ?_) (fun h => ?_)) <;> simp only [h]) | refine awp_cond_t rfl ?_ | refine awp_cond_f rfl ?_ | ((refine awp_cond rfl (fun h => ?_) (fun h => ?_) <;> try simp only [ifs] at h) <;> (try (exfalso; omega))) | refine awp_ret ?_))
    (refine retA_is (by (simp (implicitDefEqProofs := false) (maxSteps := 2000000) (disch := omega) only [go_sem, Go.Proofs.Tryz.results87, colsM, h6]); rfl) ?_; refine eN hE ?_; simp [oneA, ren, renL, colsM, h6])
  have d2 : decide ((l.length : Int) > 6) = false := decide_eq_false (by omega)
  have hM : colsM l = colsFrom [] l := by rw [colsM, if_neg (by omega)]
  rw [hM]
  (repeat' (first | refine awp_seq ?_ | refine awp_block ?_ | refine awp_skip ?_ | refine awp_exit ?_ | ((first | refine rR (fun K kp hK hkp => ?_) | refine iG ?_); simp (implicitDefEqProofs := false) (maxSteps := 2000000) (disch := omega) only [go_sem, d1, d2]; (repeat' (first | (refine hK _ ?_; clear hK hkp kp K) | (with_reducible refine And.intro ?_ ?_) | omega))) | ((first | refine aG (fun h => ?_) (fun h => ?_) | refine aD (fun h => ?_) (fun h => ?_) | refine aX (fun h => ?_) (fun h => ?_)) <;> simp only [h]) | refine awp_cond_t rfl ?_ | refine awp_cond_f rfl ?_ | ((refine awp_cond rfl (fun h => ?_) (fun h => ?_) <;> try simp only [ifs] at h) <;> (try (exfalso; omega))) | refine awp_ret ?_))
  refine awp_loop (fun k : Nat => ⟨[(16, .r (.int .i64 k)), (15, .r (.int .i64 l.length)), (14, .ro t 2 (l.map eC)), (0, .ro t 2 (l.map eC))], [], 0⟩) (fun k => k ≤ l.length ∧ colsFrom (l.take k) (l.drop k) = colsFrom [] l) (fun k => l.length - k) 0 ?_ ?_ ?_
  · simp
  · (refine emb [] ?_ ?_ rfl ?_ ?_ ?_ ?_ <;> simp [okM, okO, lk, ren, renL, renNd, by_, hE] <;> (try omega))
  intro k ⟨hk, hno⟩
  by_cases hk' : k < l.length
  · obtain ⟨c, hx⟩ : ∃ x, l[k]? = some x := ⟨l[k], by simp [hk']⟩
    rw [colsFrom_step hx] at hno
    have hc : okS c.nm := hs c (List.mem_of_getElem? hx)
    by_cases hn : nameM c.nm = 0
    · rw [if_neg (by simpa using hn)] at hno
      have hnc := name_con T c.nm hc
      rw [hn] at hnc
      by_cases hk1 : c.k < 1
      · have d3 : decide (c.k < 1) = true := decide_eq_true hk1
        (repeat' (first | refine awp_seq ?_ | refine awp_block ?_ | refine awp_skip ?_ | refine awp_exit ?_ | ((first | refine rR (fun K kp hK hkp => ?_) | refine cR hnc ?_ | refine iG ?_); simp (implicitDefEqProofs := false) (maxSteps := 2000000) (disch := omega) only [go_sem, hx, eC, d3]; (repeat' (first | (refine hK _ ?_; clear hK hkp kp K) | (with_reducible refine And.intro ?_ ?_) | omega))) | ((first | refine aG (fun h => ?_) (fun h => ?_) | refine aD (fun h => ?_) (fun h => ?_) | refine aX (fun h => ?_) (fun h => ?_)) <;> simp only [h]) | refine awp_cond_t rfl ?_ | refine awp_cond_f rfl ?_ | ((refine awp_cond rfl (fun h => ?_) (fun h => ?_) <;> try simp only [ifs] at h) <;> (try (exfalso; omega))) | refine awp_ret ?_))
        (refine retA_is (by (simp (implicitDefEqProofs := false) (maxSteps := 2000000) (disch := omega) only [go_sem, Go.Proofs.Tryz.results87]); rfl) ?_; refine eN hE ?_; simp [oneA, ren, renL])
        rw [← hno, if_pos (.inl hk1)]
      have d3 : decide (c.k < 1) = false := decide_eq_false hk1
      by_cases hk3 : c.k > 3
      · have d4 : decide (c.k > 3) = true := decide_eq_true hk3
        (repeat' (first | refine awp_seq ?_ | refine awp_block ?_ | refine awp_skip ?_ | refine awp_exit ?_ | ((first | refine rR (fun K kp hK hkp => ?_) | refine cR hnc ?_ | refine iG ?_); simp (implicitDefEqProofs := false) (maxSteps := 2000000) (disch := omega) only [go_sem, hx, eC, d3, d4]; (repeat' (first | (refine hK _ ?_; clear hK hkp kp K) | (with_reducible refine And.intro ?_ ?_) | omega))) | ((first | refine aG (fun h => ?_) (fun h => ?_) | refine aD (fun h => ?_) (fun h => ?_) | refine aX (fun h => ?_) (fun h => ?_)) <;> simp only [h]) | refine awp_cond_t rfl ?_ | refine awp_cond_f rfl ?_ | ((refine awp_cond rfl (fun h => ?_) (fun h => ?_) <;> try simp only [ifs] at h) <;> (try (exfalso; omega))) | refine awp_ret ?_))
        (refine retA_is (by (simp (implicitDefEqProofs := false) (maxSteps := 2000000) (disch := omega) only [go_sem, Go.Proofs.Tryz.results87]); rfl) ?_; refine eN hE ?_; simp [oneA, ren, renL])
        rw [← hno, if_pos (.inr hk3)]
      have d4 : decide (c.k > 3) = false := decide_eq_false hk3
      rw [if_neg (by omega)] at hno
      have hcf := containsFuncC_con E.G t (l.take k) 114 [.re false [.r (.string c.nm), .r (.int .i64 c.k)] 0] (sameN c) (by simp; omega) (by simp [borL, bor]) (by simp [renL, ren]) (fun G x => cols1_con false c G x)
      (repeat' (first | refine awp_seq ?_ | refine awp_block ?_ | refine awp_skip ?_ | refine awp_exit ?_ | ((first | refine rR (fun K kp hK hkp => ?_) | refine cR hnc ?_ | refine cR hcf ?_ | refine iG ?_); simp (implicitDefEqProofs := false) (maxSteps := 2000000) (disch := omega) only [go_sem, hx, eC, d3, d4, List.map_take]; (repeat' (first | (refine hK _ ?_; clear hK hkp kp K) | (with_reducible refine And.intro ?_ ?_) | omega))) | ((first | refine aG (fun h => ?_) (fun h => ?_) | refine aD (fun h => ?_) (fun h => ?_) | refine aX (fun h => ?_) (fun h => ?_)) <;> simp only [h]) | refine awp_cond_t rfl ?_ | refine awp_cond_f rfl ?_ | ((refine awp_cond rfl (fun h => ?_) (fun h => ?_) <;> try simp only [ifs] at h) <;> (try (exfalso; omega))) | refine awp_ret ?_))
      · (refine retA_is (by (simp (implicitDefEqProofs := false) (maxSteps := 2000000) (disch := omega) only [go_sem, Go.Proofs.Tryz.results87]); rfl) ?_; refine eN hE ?_; simp [oneA, ren, renL])
        rw [← hno, if_pos h]
      · ((first | (refine nextB (k + 1) ?_ ?_ ?_) | (refine nextA (k + 1) ?_ ?_ ?_)); rotate_left; (· (try dsimp only); (first | omega | (simp only [List.length_drop, List.length_cons, List.length_append]; omega) | (simp; done) | (simp; omega))); (· (refine emb [] ?_ ?_ rfl ?_ ?_ ?_ ?_ <;> simp [okM, okO, lk, ren, renL, renNd, by_, hE] <;> (try omega))))
        exact ⟨by omega, by rw [← hno, if_neg (by simp [h])]⟩
    · have hb : (nameM c.nm != 0) = true := by simpa using hn
      rw [if_pos hn] at hno
      (repeat' (first | refine awp_seq ?_ | refine awp_block ?_ | refine awp_skip ?_ | refine awp_exit ?_ | ((first | refine rR (fun K kp hK hkp => ?_) | refine cR (name_con T c.nm hc) ?_ | refine iG ?_); simp (implicitDefEqProofs := false) (maxSteps := 2000000) (disch := omega) only [go_sem, hx, eC, hb]; (repeat' (first | (refine hK _ ?_; clear hK hkp kp K) | (with_reducible refine And.intro ?_ ?_) | omega))) | ((first | refine aG (fun h => ?_) (fun h => ?_) | refine aD (fun h => ?_) (fun h => ?_) | refine aX (fun h => ?_) (fun h => ?_)) <;> simp only [h]) | refine awp_cond_t rfl ?_ | refine awp_cond_f rfl ?_ | ((refine awp_cond rfl (fun h => ?_) (fun h => ?_) <;> try simp only [ifs] at h) <;> (try (exfalso; omega))) | refine awp_ret ?_))
      (refine retA_is (by (simp (implicitDefEqProofs := false) (maxSteps := 2000000) (disch := omega) only [go_sem, Go.Proofs.Tryz.results87]); rfl) ?_; refine eN hE ?_; simp [oneA, ren, renL])
      exact hno
  · (repeat' (first | refine awp_seq ?_ | refine awp_block ?_ | refine awp_skip ?_ | refine awp_exit ?_ | ((first | refine rR (fun K kp hK hkp => ?_) | refine iG ?_); simp (implicitDefEqProofs := false) (maxSteps := 2000000) (disch := omega) only [go_sem]; (repeat' (first | (refine hK _ ?_; clear hK hkp kp K) | (with_reducible refine And.intro ?_ ?_) | omega))) | ((first | refine aG (fun h => ?_) (fun h => ?_) | refine aD (fun h => ?_) (fun h => ?_) | refine aX (fun h => ?_) (fun h => ?_)) <;> simp only [h]) | refine awp_cond_t rfl ?_ | refine awp_cond_f rfl ?_ | ((refine awp_cond rfl (fun h => ?_) (fun h => ?_) <;> try simp only [ifs] at h) <;> (try (exfalso; omega))) | refine awp_ret ?_))
    (refine retA_is (by (simp (implicitDefEqProofs := false) (maxSteps := 2000000) (disch := omega) only [go_sem, Go.Proofs.Tryz.results87]); rfl) ?_; refine eN hE ?_; simp [oneA, ren, renL])
    rw [← hno, List.drop_of_length_le (by omega)]; rfl
def wordT (s : ByteArray) : TK0 := ⟨1, s, 0⟩
def markT (s : ByteArray) : TK0 := ⟨4, s, 0⟩
theorem word_con (G : List (Nat × List Value)) (s : ByteArray) : Con Go.Proofs.Tryz.prog G 116 [.r (.string s)] [] 0 (Is (.agg (eT (wordT s))) [] 0) No := by
  refine con_of_awp Go.Proofs.Tryz.func116 rfl (by kernel_rfl) (of_decide_eq_true (by kernel_rfl)) ?_; intro E hG hE; subst hG; simp only [ent]
  (repeat' (first | refine awp_seq ?_ | refine awp_block ?_ | refine awp_skip ?_ | refine awp_exit ?_ | ((first | refine rR (fun K kp hK hkp => ?_) | refine iG ?_); simp (implicitDefEqProofs := false) (maxSteps := 2000000) (disch := omega) only [go_sem]; (repeat' (first | (refine hK _ ?_; clear hK hkp kp K) | (with_reducible refine And.intro ?_ ?_) | omega))) | ((first | refine aG (fun h => ?_) (fun h => ?_) | refine aD (fun h => ?_) (fun h => ?_) | refine aX (fun h => ?_) (fun h => ?_)) <;> simp only [h]) | refine awp_cond_t rfl ?_ | refine awp_cond_f rfl ?_ | ((refine awp_cond rfl (fun h => ?_) (fun h => ?_) <;> try simp only [ifs] at h) <;> (try (exfalso; omega))) | refine awp_ret ?_))
  (refine retA_is (by (simp (implicitDefEqProofs := false) (maxSteps := 2000000) (disch := omega) only [go_sem, Go.Proofs.Tryz.results116, eT, wordT]); rfl) ?_; refine eN hE ?_; simp [oneA, ren, renL, eT, wordT])
theorem mark_con (G : List (Nat × List Value)) (s : ByteArray) : Con Go.Proofs.Tryz.prog G 97 [.r (.string s)] [] 0 (Is (.agg (eT (markT s))) [] 0) No := by
  refine con_of_awp Go.Proofs.Tryz.func97 rfl (by kernel_rfl) (of_decide_eq_true (by kernel_rfl)) ?_; intro E hG hE; subst hG; simp only [ent]
  (repeat' (first | refine awp_seq ?_ | refine awp_block ?_ | refine awp_skip ?_ | refine awp_exit ?_ | ((first | refine rR (fun K kp hK hkp => ?_) | refine iG ?_); simp (implicitDefEqProofs := false) (maxSteps := 2000000) (disch := omega) only [go_sem]; (repeat' (first | (refine hK _ ?_; clear hK hkp kp K) | (with_reducible refine And.intro ?_ ?_) | omega))) | ((first | refine aG (fun h => ?_) (fun h => ?_) | refine aD (fun h => ?_) (fun h => ?_) | refine aX (fun h => ?_) (fun h => ?_)) <;> simp only [h]) | refine awp_cond_t rfl ?_ | refine awp_cond_f rfl ?_ | ((refine awp_cond rfl (fun h => ?_) (fun h => ?_) <;> try simp only [ifs] at h) <;> (try (exfalso; omega))) | refine awp_ret ?_))
  (refine retA_is (by (simp (implicitDefEqProofs := false) (maxSteps := 2000000) (disch := omega) only [go_sem, Go.Proofs.Tryz.results97, eT, markT]); rfl) ?_; refine eN hE ?_; simp [oneA, ren, renL, eT, markT])
set_option maxRecDepth 100000 in
theorem all_con (G : List (Nat × List Value)) (t : Bool) (l : List ByteArray) (hl : l.length ≤ 1048576) : Con Go.Proofs.Tryz.prog G 92 [.ro t 1 (l.map eStr)] [] 0 (Is (.ro true 3 ((l.map wordT).map eT)) [] 0) No := by
  refine con_of_awp Go.Proofs.Tryz.func92 rfl (by kernel_rfl) (of_decide_eq_true (by kernel_rfl)) ?_; intro E hG hE; subst hG; simp only [ent]
  (repeat' (first | refine awp_seq ?_ | refine awp_block ?_ | refine awp_skip ?_ | refine awp_exit ?_ | ((first | refine rR (fun K kp hK hkp => ?_) | refine iG ?_); simp (implicitDefEqProofs := false) (maxSteps := 2000000) (disch := omega) only [go_sem]; (repeat' (first | (refine hK _ ?_; clear hK hkp kp K) | (with_reducible refine And.intro ?_ ?_) | omega))) | ((first | refine aG (fun h => ?_) (fun h => ?_) | refine aD (fun h => ?_) (fun h => ?_) | refine aX (fun h => ?_) (fun h => ?_)) <;> simp only [h]) | refine awp_cond_t rfl ?_ | refine awp_cond_f rfl ?_ | ((refine awp_cond rfl (fun h => ?_) (fun h => ?_) <;> try simp only [ifs] at h) <;> (try (exfalso; omega))) | refine awp_ret ?_))
  (refine AWP.emb (emb_nil 3 110 3 ?_) ?_; (· rfl); dsimp only)
  refine awp_loop (fun k : Nat => ⟨[(8, .r (.int .i64 k)), (7, .r (.int .i64 l.length)), (6, .ro t 1 (l.map eStr)), (3, .s 0 0 ((l.take k).map wordT).length)], [(0, .lst 110 3 (((l.take k).map wordT).map eT))], 1⟩) (fun k => k ≤ l.length) (fun k => l.length - k) 0 ?_ ?_ ?_
  · simp
  · (refine emb [0] ?_ ?_ rfl ?_ ?_ ?_ ?_ <;> simp [okM, okO, lk, ren, renL, renNd, by_, hE] <;> (try omega))
  intro k hk
  by_cases hk' : k < l.length
  · obtain ⟨x, hx⟩ : ∃ x, l[k]? = some x := ⟨l[k], by simp [hk']⟩
    have hs : (l.take (k + 1)).map wordT = (l.take k).map wordT ++ [wordT x] := by rw [List.take_add_one, hx]; simp
    have hle : ((l.take k).map wordT).length ≤ 1048576 := by simp; omega
    have hnx : (1 : Nat) = 1 := rfl
    generalize hq : (l.take k).map wordT = q at hs hle ⊢
    (repeat' (first | refine awp_seq ?_ | refine awp_block ?_ | refine awp_skip ?_ | refine awp_exit ?_ | ((first | refine rR (fun K kp hK hkp => ?_) | refine cR (word_con _ _) ?_ | refine iG ?_); simp (implicitDefEqProofs := false) (maxSteps := 2000000) (disch := omega) only [go_sem, hx, eStr, eT, wordT]; (repeat' (first | (refine hK _ ?_; clear hK hkp kp K) | (with_reducible refine And.intro ?_ ?_) | omega))) | ((first | refine aG (fun h => ?_) (fun h => ?_) | refine aD (fun h => ?_) (fun h => ?_) | refine aX (fun h => ?_) (fun h => ?_)) <;> simp only [h]) | refine awp_cond_t rfl ?_ | refine awp_cond_f rfl ?_ | ((refine awp_cond rfl (fun h => ?_) (fun h => ?_) <;> try simp only [ifs] at h) <;> (try (exfalso; omega))) | refine awp_ret ?_))
    ((first | (refine nextB (k + 1) ?_ ?_ ?_) | (refine nextA (k + 1) ?_ ?_ ?_)); rotate_left; (· (try dsimp only); (first | omega | (simp only [List.length_drop, List.length_cons, List.length_append]; omega) | (simp; done) | (simp; omega))); (· (refine emb [2] ?_ ?_ rfl ?_ ?_ ?_ ?_ <;> simp [okM, okO, lk, ren, renL, renNd, by_, hE, hs, eT, wordT] <;> (try omega))))
    omega
  · obtain rfl : k = l.length := by omega
    (repeat' (first | refine awp_seq ?_ | refine awp_block ?_ | refine awp_skip ?_ | refine awp_exit ?_ | ((first | refine rR (fun K kp hK hkp => ?_) | refine iG ?_); simp (implicitDefEqProofs := false) (maxSteps := 2000000) (disch := omega) only [go_sem]; (repeat' (first | (refine hK _ ?_; clear hK hkp kp K) | (with_reducible refine And.intro ?_ ?_) | omega))) | ((first | refine aG (fun h => ?_) (fun h => ?_) | refine aD (fun h => ?_) (fun h => ?_) | refine aX (fun h => ?_) (fun h => ?_)) <;> simp only [h]) | refine awp_cond_t rfl ?_ | refine awp_cond_f rfl ?_ | ((refine awp_cond rfl (fun h => ?_) (fun h => ?_) <;> try simp only [ifs] at h) <;> (try (exfalso; omega))) | refine awp_ret ?_))
    (refine retA_is (by (simp (implicitDefEqProofs := false) (maxSteps := 2000000) (disch := omega) only [go_sem, Go.Proofs.Tryz.results92]); rfl) ?_; refine embS_frz (by simp only [oneA]; simp (implicitDefEqProofs := false) (maxSteps := 2000000) (disch := omega) only [go_sem]; rfl) ?_; refine (embV_nil hE (by simp) ?_).s; simp [oneA, ren, renL])
set_option maxRecDepth 100000 in
theorem allO_con (G : List (Nat × List Value)) (t : Bool) (l : List ByteArray) (hl : l.length ≤ 1048576) : Con Go.Proofs.Tryz.prog G 92 [.ro t 1 (l.map eStr)] [] 0 (Is (.s 0 0 (l.map wordT).length) [(0, .lst 110 3 ((l.map wordT).map eT))] 1) No := by
  refine con_of_awp Go.Proofs.Tryz.func92 rfl (by kernel_rfl) (of_decide_eq_true (by kernel_rfl)) ?_; intro E hG hE; subst hG; simp only [ent]
  (repeat' (first | refine awp_seq ?_ | refine awp_block ?_ | refine awp_skip ?_ | refine awp_exit ?_ | ((first | refine rR (fun K kp hK hkp => ?_) | refine iG ?_); simp (implicitDefEqProofs := false) (maxSteps := 2000000) (disch := omega) only [go_sem]; (repeat' (first | (refine hK _ ?_; clear hK hkp kp K) | (with_reducible refine And.intro ?_ ?_) | omega))) | ((first | refine aG (fun h => ?_) (fun h => ?_) | refine aD (fun h => ?_) (fun h => ?_) | refine aX (fun h => ?_) (fun h => ?_)) <;> simp only [h]) | refine awp_cond_t rfl ?_ | refine awp_cond_f rfl ?_ | ((refine awp_cond rfl (fun h => ?_) (fun h => ?_) <;> try simp only [ifs] at h) <;> (try (exfalso; omega))) | refine awp_ret ?_))
  (refine AWP.emb (emb_nil 3 110 3 ?_) ?_; (· rfl); dsimp only)
  refine awp_loop (fun k : Nat => ⟨[(8, .r (.int .i64 k)), (7, .r (.int .i64 l.length)), (6, .ro t 1 (l.map eStr)), (3, .s 0 0 ((l.take k).map wordT).length)], [(0, .lst 110 3 (((l.take k).map wordT).map eT))], 1⟩) (fun k => k ≤ l.length) (fun k => l.length - k) 0 ?_ ?_ ?_
  · simp
  · (refine emb [0] ?_ ?_ rfl ?_ ?_ ?_ ?_ <;> simp [okM, okO, lk, ren, renL, renNd, by_, hE] <;> (try omega))
  intro k hk
  by_cases hk' : k < l.length
  · obtain ⟨x, hx⟩ : ∃ x, l[k]? = some x := ⟨l[k], by simp [hk']⟩
    have hs : (l.take (k + 1)).map wordT = (l.take k).map wordT ++ [wordT x] := by rw [List.take_add_one, hx]; simp
    have hle : ((l.take k).map wordT).length ≤ 1048576 := by simp; omega
    generalize hq : (l.take k).map wordT = q at hs hle ⊢
    (repeat' (first | refine awp_seq ?_ | refine awp_block ?_ | refine awp_skip ?_ | refine awp_exit ?_ | ((first | refine rR (fun K kp hK hkp => ?_) | refine cR (word_con _ _) ?_ | refine iG ?_); simp (implicitDefEqProofs := false) (maxSteps := 2000000) (disch := omega) only [go_sem, hx, eStr, eT, wordT]; (repeat' (first | (refine hK _ ?_; clear hK hkp kp K) | (with_reducible refine And.intro ?_ ?_) | omega))) | ((first | refine aG (fun h => ?_) (fun h => ?_) | refine aD (fun h => ?_) (fun h => ?_) | refine aX (fun h => ?_) (fun h => ?_)) <;> simp only [h]) | refine awp_cond_t rfl ?_ | refine awp_cond_f rfl ?_ | ((refine awp_cond rfl (fun h => ?_) (fun h => ?_) <;> try simp only [ifs] at h) <;> (try (exfalso; omega))) | refine awp_ret ?_))
    ((first | (refine nextB (k + 1) ?_ ?_ ?_) | (refine nextA (k + 1) ?_ ?_ ?_)); rotate_left; (· (try dsimp only); (first | omega | (simp only [List.length_drop, List.length_cons, List.length_append]; omega) | (simp; done) | (simp; omega))); (· (refine emb [2] ?_ ?_ rfl ?_ ?_ ?_ ?_ <;> simp [okM, okO, lk, ren, renL, renNd, by_, hE, hs, eT, wordT] <;> (try omega))))
    omega
  · obtain rfl : k = l.length := by omega
    rw [List.take_of_length_le (Nat.le_refl _)]
    (repeat' (first | refine awp_seq ?_ | refine awp_block ?_ | refine awp_skip ?_ | refine awp_exit ?_ | ((first | refine rR (fun K kp hK hkp => ?_) | refine iG ?_); simp (implicitDefEqProofs := false) (maxSteps := 2000000) (disch := omega) only [go_sem]; (repeat' (first | (refine hK _ ?_; clear hK hkp kp K) | (with_reducible refine And.intro ?_ ?_) | omega))) | ((first | refine aG (fun h => ?_) (fun h => ?_) | refine aD (fun h => ?_) (fun h => ?_) | refine aX (fun h => ?_) (fun h => ?_)) <;> simp only [h]) | refine awp_cond_t rfl ?_ | refine awp_cond_f rfl ?_ | ((refine awp_cond rfl (fun h => ?_) (fun h => ?_) <;> try simp only [ifs] at h) <;> (try (exfalso; omega))) | refine awp_ret ?_))
    (refine retA_is (by (simp (implicitDefEqProofs := false) (maxSteps := 2000000) (disch := omega) only [go_sem, Go.Proofs.Tryz.results92]); rfl) ?_; refine (embV [0] ?_ ?_ ?_ ?_ ?_ ?_).s <;> simp [oneA, okO, lk, ren, renL, renNd, by_, hE])
def eTs (ts : List TK0) : List AV := [.ro true 3 (ts.map eT)]
/-- Lists with commas between. -/
def commas : List (List TK0) → List TK0
  | [] => []
  | [t] => t
  | t :: r => t ++ markT (str [44]) :: commas r
def listM (l : List (List TK0)) : List TK0 := markT (str [40]) :: commas l ++ [markT (str [41])]
theorem commas_cc (x y : List TK0) (z : List (List TK0)) : commas (x :: y :: z) = x ++ markT (str [44]) :: commas (y :: z) := rfl
theorem commas_snoc : ∀ (l : List (List TK0)) (t : List TK0), l ≠ [] → commas (l ++ [t]) = commas l ++ markT (str [44]) :: t
  | [], t, h => (h rfl).elim
  | [a], t, _ => by simp [commas]
  | a :: b :: r, t, _ => by
    have := commas_snoc (b :: r) t (by simp)
    simp only [List.cons_append] at this ⊢
    rw [commas_cc, this, commas_cc]; simp
theorem commas_len : ∀ (l : List (List TK0)), (∀ x ∈ l, x.length ≤ 1000) → (commas l).length ≤ 1001 * l.length
  | [], _ => by simp [commas]
  | [a], h => by have := h a (by simp); simp [commas]; omega
  | a :: b :: r, h => by
    have h1 := h a (by simp)
    have := commas_len (b :: r) (fun x hx => h x (by simp [hx]))
    rw [commas_cc]; simp at this ⊢; omega
def listO (l : List (List TK0)) : List TK0 := markT (str [40]) :: commas l
theorem listO_nil : listO [] = [markT (str [40])] := rfl
theorem listO_one {l : List (List TK0)} {x : List TK0} (h : l[0]? = some x) : listO (l.take 1) = listO [] ++ x := by
  have : l.take 1 = [x] := by rw [List.take_add_one, h]; rfl
  rw [this]; simp [listO, commas]
theorem listO_more {l : List (List TK0)} {k : Nat} {x : List TK0} (h : l[k]? = some x) (hk : 0 < k) : listO (l.take (k + 1)) = listO (l.take k) ++ [markT (str [44])] ++ x := by
  have hl : k < l.length := (List.getElem?_eq_some_iff.1 h).1
  rw [List.take_add_one, h, Option.toList, listO, commas_snoc _ _ (by intro e; have := congrArg List.length e; simp only [List.length_take, List.length_nil] at this; omega)]; simp [listO]
set_option maxRecDepth 100000 in
theorem list_con (G : List (Nat × List Value)) (t : Bool) (l : List (List TK0)) (hl : l.length ≤ 1000) (hs : ∀ x ∈ l, x.length ≤ 1000) : Con Go.Proofs.Tryz.prog G 93 [.ro t 1 (l.map eTs)] [] 0 (Is (.ro true 3 ((listM l).map eT)) [] 0) No := by
  refine con_of_awp Go.Proofs.Tryz.func93 rfl (by kernel_rfl) (of_decide_eq_true (by kernel_rfl)) ?_; intro E hG hE; subst hG; simp only [ent]
  have mc := mark_con E.G
  simp only [eT, markT] at mc
  (repeat' (first | refine awp_seq ?_ | refine awp_block ?_ | refine awp_skip ?_ | refine awp_exit ?_ | ((first | refine rR (fun K kp hK hkp => ?_) | refine cR (mc _) ?_ | refine iG ?_); simp (implicitDefEqProofs := false) (maxSteps := 2000000) (disch := omega) only [go_sem, eT, markT]; (repeat' (first | (refine hK _ ?_; clear hK hkp kp K) | (with_reducible refine And.intro ?_ ?_) | omega))) | ((first | refine aG (fun h => ?_) (fun h => ?_) | refine aD (fun h => ?_) (fun h => ?_) | refine aX (fun h => ?_) (fun h => ?_)) <;> simp only [h]) | refine awp_cond_t rfl ?_ | refine awp_cond_f rfl ?_ | ((refine awp_cond rfl (fun h => ?_) (fun h => ?_) <;> try simp only [ifs] at h) <;> (try (exfalso; omega))) | refine awp_ret ?_))
  refine awp_loop (fun k : Nat => ⟨[(10, .r (.int .i64 k)), (9, .r (.int .i64 l.length)), (8, .ro t 1 (l.map eTs)), (3, .s 0 0 (listO (l.take k)).length)], [(0, .lst 110 3 ((listO (l.take k)).map eT))], 1⟩) (fun k => k ≤ l.length) (fun k => l.length - k) 0 ?_ ?_ ?_
  · simp
  · (refine emb [0] ?_ ?_ rfl ?_ ?_ ?_ ?_ <;> simp [okM, okO, lk, ren, renL, renNd, by_, hE, listO_nil, eT, markT, str] <;> (try omega))
  intro k hk
  have hle : (listO (l.take k)).length ≤ 1002001 := by
    have := commas_len (l.take k) (fun x hx => hs x (List.mem_of_mem_take hx))
    simp [listO] at this ⊢; omega
  by_cases hk' : k < l.length
  · obtain ⟨x, hx⟩ : ∃ x, l[k]? = some x := ⟨l[k], by simp [hk']⟩
    have hxl := hs x (List.mem_of_getElem? hx)
    by_cases h0 : 0 < k
    · have d1 : decide ((k : Int) > 0) = true := decide_eq_true (by omega)
      have hm := listO_more hx h0
      generalize listO (l.take k) = q at hm hle ⊢
      (repeat' (first | refine awp_seq ?_ | refine awp_block ?_ | refine awp_skip ?_ | refine awp_exit ?_ | ((first | refine rR (fun K kp hK hkp => ?_) | refine cR (mc _) ?_ | refine iG ?_); simp (implicitDefEqProofs := false) (maxSteps := 2000000) (disch := omega) only [go_sem, hx, eTs, eT, d1]; (repeat' (first | (refine hK _ ?_; clear hK hkp kp K) | (with_reducible refine And.intro ?_ ?_) | omega))) | ((first | refine aG (fun h => ?_) (fun h => ?_) | refine aD (fun h => ?_) (fun h => ?_) | refine aX (fun h => ?_) (fun h => ?_)) <;> simp only [h]) | refine awp_cond_t rfl ?_ | refine awp_cond_f rfl ?_ | ((refine awp_cond rfl (fun h => ?_) (fun h => ?_) <;> try simp only [ifs] at h) <;> (try (exfalso; omega))) | refine awp_ret ?_))
      ((first | (refine nextB (k + 1) ?_ ?_ ?_) | (refine nextA (k + 1) ?_ ?_ ?_)); rotate_left; (· (try dsimp only); (first | omega | (simp only [List.length_drop, List.length_cons, List.length_append]; omega) | (simp; done) | (simp; omega))); (· (refine emb [3] ?_ ?_ rfl ?_ ?_ ?_ ?_ <;> simp [okM, okO, lk, ren, renL, renNd, by_, hE, hm, eT, markT, str] <;> (try omega))))
      omega
    · obtain rfl : k = 0 := by omega
      have hm := listO_one hx
      simp only [List.take_zero] at hle ⊢
      generalize listO [] = q at hm hle ⊢
      (repeat' (first | refine awp_seq ?_ | refine awp_block ?_ | refine awp_skip ?_ | refine awp_exit ?_ | ((first | refine rR (fun K kp hK hkp => ?_) | refine cR (mc _) ?_ | refine iG ?_); simp (implicitDefEqProofs := false) (maxSteps := 2000000) (disch := omega) only [go_sem, hx, eTs, eT]; (repeat' (first | (refine hK _ ?_; clear hK hkp kp K) | (with_reducible refine And.intro ?_ ?_) | omega))) | ((first | refine aG (fun h => ?_) (fun h => ?_) | refine aD (fun h => ?_) (fun h => ?_) | refine aX (fun h => ?_) (fun h => ?_)) <;> simp only [h]) | refine awp_cond_t rfl ?_ | refine awp_cond_f rfl ?_ | ((refine awp_cond rfl (fun h => ?_) (fun h => ?_) <;> try simp only [ifs] at h) <;> (try (exfalso; omega))) | refine awp_ret ?_))
      ((first | (refine nextB (0 + 1) ?_ ?_ ?_) | (refine nextA (0 + 1) ?_ ?_ ?_)); rotate_left; (· (try dsimp only); (first | omega | (simp only [List.length_drop, List.length_cons, List.length_append]; omega) | (simp; done) | (simp; omega))); (· (refine emb [1] ?_ ?_ rfl ?_ ?_ ?_ ?_ <;> simp [okM, okO, lk, ren, renL, renNd, by_, hE, hm] <;> (try omega))))
      omega
  · obtain rfl : k = l.length := by omega
    have hm : listM l = listO l ++ [markT (str [41])] := rfl
    rw [hm]
    rw [List.take_of_length_le (Nat.le_refl _)] at hle ⊢
    generalize listO l = q at hm hle ⊢
    (repeat' (first | refine awp_seq ?_ | refine awp_block ?_ | refine awp_skip ?_ | refine awp_exit ?_ | ((first | refine rR (fun K kp hK hkp => ?_) | refine cR (mc _) ?_ | refine iG ?_); simp (implicitDefEqProofs := false) (maxSteps := 2000000) (disch := omega) only [go_sem, eT]; (repeat' (first | (refine hK _ ?_; clear hK hkp kp K) | (with_reducible refine And.intro ?_ ?_) | omega))) | ((first | refine aG (fun h => ?_) (fun h => ?_) | refine aD (fun h => ?_) (fun h => ?_) | refine aX (fun h => ?_) (fun h => ?_)) <;> simp only [h]) | refine awp_cond_t rfl ?_ | refine awp_cond_f rfl ?_ | ((refine awp_cond rfl (fun h => ?_) (fun h => ?_) <;> try simp only [ifs] at h) <;> (try (exfalso; omega))) | refine awp_ret ?_))
    (refine retA_is (by (simp (implicitDefEqProofs := false) (maxSteps := 2000000) (disch := omega) only [go_sem, Go.Proofs.Tryz.results93, eT, markT, str]); rfl) ?_; refine embS_frz (by simp only [oneA]; simp (implicitDefEqProofs := false) (maxSteps := 2000000) (disch := omega) only [go_sem, eT, markT, str]; rfl) ?_; refine (embV_nil hE (by simp) ?_).s; simp [oneA, ren, renL, eT, markT, str])
end Go.AM
/- Statements: what the program checks of their parts. -/
namespace Go.AM
open Go Go.RowKit
open Go.Proofs.YtoecmmpjndcolaaGreatDoor (OP nameM litM exprM marksS wordsS StrsAt str SlAt)
attribute [local irreducible] AWP retA
theorem slAt_of_ro {α : Type} {w : World} {z : Zone} {t : Bool} {k : Nat} {l : List α} {v : Value} (enc : α → List Value) (encA : α → List AV) (he : ∀ x, encA x = (enc x).map .r) (hz : ∀ t b, z t b → b < w.heap.size) (h : Rep w z [] (.ro t k (l.map encA)) v) :
    ∃ a cap, v = .slice a l.length cap ∧ SlAt w k enc a l := by
  obtain ⟨ad, c, rfl, hc, hn | ⟨b, o, rfl, hzb, hcell⟩⟩ := h.ro_inv
  · have : l = [] := by simpa using hn
    subst this; exact ⟨ad, c, rfl, .inl rfl⟩
  · refine ⟨_, c, by simp, .inr ⟨b, o, rfl, hz _ _ hzb, fun j x hj i u hi => ?_⟩⟩
    obtain ⟨h1, h2⟩ := hcell j (encA x) (by rw [List.getElem?_map, hj]; rfl)
    obtain ⟨y, hy, hr⟩ := h2 i (.r u) (by rw [he, List.getElem?_map, hi]; rfl)
    rw [hy, show y = u from hr.1.r_inv]
def okO1 (o : OP) : Prop := okS o.vs ∧ okS o.nm
theorem expression_con {G : List (Nat × List Value)} (T : Tabs G) (t : Bool) (l : List OP) (hl : l.length ≤ 1048576) (hs : ∀ o ∈ l, okO1 o) : Con Go.Proofs.Tryz.prog G 54 [.ro t 5 (l.map eO)] [] 0 (Is (.r (.int .i64 (exprM l))) [] 0) No :=
  con_of_calls (by kernel_rfl) (fun w z vs hz hr hG => by
    obtain ⟨v, r, rfl, h1, h2⟩ := hr.head
    obtain rfl := h2.of_nil
    obtain ⟨a, cap, rfl, hA⟩ := slAt_of_ro OP.cells eO (fun _ => rfl) hz h1
    obtain ⟨m1, m2⟩ := strs_of hG T.marks
    obtain ⟨w1, w2⟩ := strs_of hG T.words
    exact Go.Proofs.YtoecmmpjndcolaaGreatDoor.expression_any a l cap w hA hl hs m1 m2 w1 w2)
theorem expressionFault_con (G : List (Nat × List Value)) (t : Bool) (l : List OP) (hl : l.length ≤ 1048576) (hs : ∀ o ∈ l, okO1 o) : Con Go.Proofs.Tryz.prog G 67 [.ro t 5 (l.map eO)] [] 0 (Is (.r (.int .i64 (exprM l))) [] 0) No :=
  con_of_calls (by kernel_rfl) (fun w z vs hz hr hG => by
    obtain ⟨v, r, rfl, h1, h2⟩ := hr.head
    obtain rfl := h2.of_nil
    obtain ⟨a, cap, rfl, hA⟩ := slAt_of_ro OP.cells eO (fun _ => rfl) hz h1
    exact Go.Proofs.YtoecmmpjndcolaaGreatDoor.expressionFault_any a l cap w hA hl hs)
theorem rowFrom_step {l : List V} {k : Nat} {v : V} (h : l[k]? = some v) : rowFrom (l.drop k) = if litM v.k v.n v.s ≠ 0 then litM v.k v.n v.s else rowFrom (l.drop (k + 1)) := by rw [drop_at h, rowFrom]
theorem namesM_step {l : List ByteArray} {k : Nat} {s : ByteArray} (h : l[k]? = some s) : namesM (l.drop k) = if nameM s ≠ 0 then nameM s else namesM (l.drop (k + 1)) := by rw [drop_at h, namesM]
set_option maxRecDepth 100000 in
set_option maxHeartbeats 4000000 in
theorem row_con (G : List (Nat × List Value)) (t : Bool) (l : List V) (hl : l.length ≤ 1048576) (hs : ∀ v ∈ l, okS v.s) : Con Go.Proofs.Tryz.prog G 88 [.ro t 3 (l.map eV)] [] 0 (Is (.r (.int .i64 (rowM l))) [] 0) No := by
  refine con_of_awp Go.Proofs.Tryz.func88 rfl (by kernel_rfl) (of_decide_eq_true (by kernel_rfl)) ?_; intro E hG hE; subst hG; simp only [ent]
  by_cases h1 : l.length < 1
  · have d1 : decide ((l.length : Int) < 1) = true := decide_eq_true (by omega)
    (repeat' (first | refine awp_seq ?_ | refine awp_block ?_ | refine awp_skip ?_ | refine awp_exit ?_ | ((first | refine rR (fun K kp hK hkp => ?_) | refine iG ?_); simp (implicitDefEqProofs := false) (maxSteps := 2000000) (disch := omega) only [go_sem, d1]; (repeat' (first | (refine hK _ ?_; clear hK hkp kp K) | (with_reducible refine And.intro ?_ ?_) | omega))) | ((first | refine aG (fun h => ?_) (fun h => ?_) | refine aD (fun h => ?_) (fun h => ?_) | refine aX (fun h => ?_) (fun h => ?_)) <;> simp only [h]) | refine awp_cond_t rfl ?_ | refine awp_cond_f rfl ?_ | ((refine awp_cond rfl (fun h => ?_) (fun h => ?_) <;> try simp only [ifs] at h) <;> (try (exfalso; omega))) | refine awp_ret ?_))
    (refine retA_is (by (simp (implicitDefEqProofs := false) (maxSteps := 2000000) (disch := omega) only [go_sem, Go.Proofs.Tryz.results88, rowM, h1]); rfl) ?_; refine eN hE ?_; simp [oneA, ren, renL, rowM, h1])
  have d1 : decide ((l.length : Int) < 1) = false := decide_eq_false (by omega)
  by_cases h6 : 6 < l.length
  · have d2 : decide ((l.length : Int) > 6) = true := decide_eq_true (by omega)
    (repeat' (first | refine awp_seq ?_ | refine awp_block ?_ | refine awp_skip ?_ | refine awp_exit ?_ | ((first | refine rR (fun K kp hK hkp => ?_) | refine iG ?_); simp (implicitDefEqProofs := false) (maxSteps := 2000000) (disch := omega) only [go_sem, d1, d2]; (repeat' (first | (refine hK _ ?_; clear hK hkp kp K) | (with_reducible refine And.intro ?_ ?_) | omega))) | ((first | refine aG (fun h => ?_) (fun h => ?_) | refine aD (fun h => ?_) (fun h => ?_) | refine aX (fun h => ?_) (fun h => ?_)) <;> simp only [h]) | refine awp_cond_t rfl ?_ | refine awp_cond_f rfl ?_ | ((refine awp_cond rfl (fun h => ?_) (fun h => ?_) <;> try simp only [ifs] at h) <;> (try (exfalso; omega))) | refine awp_ret ?_))
    (refine retA_is (by (simp (implicitDefEqProofs := false) (maxSteps := 2000000) (disch := omega) only [go_sem, Go.Proofs.Tryz.results88, rowM, h6]); rfl) ?_; refine eN hE ?_; simp [oneA, ren, renL, rowM, h6])
  have d2 : decide ((l.length : Int) > 6) = false := decide_eq_false (by omega)
  have hM : rowM l = rowFrom l := by rw [rowM, if_neg (by omega)]
  rw [hM]
  (repeat' (first | refine awp_seq ?_ | refine awp_block ?_ | refine awp_skip ?_ | refine awp_exit ?_ | ((first | refine rR (fun K kp hK hkp => ?_) | refine iG ?_); simp (implicitDefEqProofs := false) (maxSteps := 2000000) (disch := omega) only [go_sem, d1, d2]; (repeat' (first | (refine hK _ ?_; clear hK hkp kp K) | (with_reducible refine And.intro ?_ ?_) | omega))) | ((first | refine aG (fun h => ?_) (fun h => ?_) | refine aD (fun h => ?_) (fun h => ?_) | refine aX (fun h => ?_) (fun h => ?_)) <;> simp only [h]) | refine awp_cond_t rfl ?_ | refine awp_cond_f rfl ?_ | ((refine awp_cond rfl (fun h => ?_) (fun h => ?_) <;> try simp only [ifs] at h) <;> (try (exfalso; omega))) | refine awp_ret ?_))
  refine awp_loop (fun k : Nat => ⟨[(16, .r (.int .i64 k)), (15, .r (.int .i64 l.length)), (14, .ro t 3 (l.map eV))], [], 0⟩) (fun k => k ≤ l.length ∧ rowFrom (l.drop k) = rowFrom l) (fun k => l.length - k) 0 ?_ ?_ ?_
  · simp
  · (refine emb [] ?_ ?_ rfl ?_ ?_ ?_ ?_ <;> simp [okM, okO, lk, ren, renL, renNd, by_, hE] <;> (try omega))
  intro k ⟨hk, hno⟩
  by_cases hk' : k < l.length
  · obtain ⟨v, hx⟩ : ∃ x, l[k]? = some x := ⟨l[k], by simp [hk']⟩
    rw [rowFrom_step hx] at hno
    have hc := lit_con E.G v (hs v (List.mem_of_getElem? hx))
    simp only [eV] at hc
    by_cases hn : litM v.k v.n v.s = 0
    · rw [if_neg (by simpa using hn)] at hno
      rw [hn] at hc
      (repeat' (first | refine awp_seq ?_ | refine awp_block ?_ | refine awp_skip ?_ | refine awp_exit ?_ | ((first | refine rR (fun K kp hK hkp => ?_) | refine cR hc ?_ | refine iG ?_); simp (implicitDefEqProofs := false) (maxSteps := 2000000) (disch := omega) only [go_sem, hx, eV]; (repeat' (first | (refine hK _ ?_; clear hK hkp kp K) | (with_reducible refine And.intro ?_ ?_) | omega))) | ((first | refine aG (fun h => ?_) (fun h => ?_) | refine aD (fun h => ?_) (fun h => ?_) | refine aX (fun h => ?_) (fun h => ?_)) <;> simp only [h]) | refine awp_cond_t rfl ?_ | refine awp_cond_f rfl ?_ | ((refine awp_cond rfl (fun h => ?_) (fun h => ?_) <;> try simp only [ifs] at h) <;> (try (exfalso; omega))) | refine awp_ret ?_))
      ((first | (refine nextB (k + 1) ?_ ?_ ?_) | (refine nextA (k + 1) ?_ ?_ ?_)); rotate_left; (· (try dsimp only); (first | omega | (simp only [List.length_drop, List.length_cons, List.length_append]; omega) | (simp; done) | (simp; omega))); (· (refine emb [] ?_ ?_ rfl ?_ ?_ ?_ ?_ <;> simp [okM, okO, lk, ren, renL, renNd, by_, hE] <;> (try omega))))
      exact ⟨by omega, hno⟩
    · have hb : (litM v.k v.n v.s != 0) = true := by simpa using hn
      rw [if_pos hn] at hno
      (repeat' (first | refine awp_seq ?_ | refine awp_block ?_ | refine awp_skip ?_ | refine awp_exit ?_ | ((first | refine rR (fun K kp hK hkp => ?_) | refine cR hc ?_ | refine iG ?_); simp (implicitDefEqProofs := false) (maxSteps := 2000000) (disch := omega) only [go_sem, hx, eV, hb]; (repeat' (first | (refine hK _ ?_; clear hK hkp kp K) | (with_reducible refine And.intro ?_ ?_) | omega))) | ((first | refine aG (fun h => ?_) (fun h => ?_) | refine aD (fun h => ?_) (fun h => ?_) | refine aX (fun h => ?_) (fun h => ?_)) <;> simp only [h]) | refine awp_cond_t rfl ?_ | refine awp_cond_f rfl ?_ | ((refine awp_cond rfl (fun h => ?_) (fun h => ?_) <;> try simp only [ifs] at h) <;> (try (exfalso; omega))) | refine awp_ret ?_))
      (refine retA_is (by (simp (implicitDefEqProofs := false) (maxSteps := 2000000) (disch := omega) only [go_sem, Go.Proofs.Tryz.results88]); rfl) ?_; refine eN hE ?_; simp [oneA, ren, renL])
      exact hno
  · (repeat' (first | refine awp_seq ?_ | refine awp_block ?_ | refine awp_skip ?_ | refine awp_exit ?_ | ((first | refine rR (fun K kp hK hkp => ?_) | refine iG ?_); simp (implicitDefEqProofs := false) (maxSteps := 2000000) (disch := omega) only [go_sem]; (repeat' (first | (refine hK _ ?_; clear hK hkp kp K) | (with_reducible refine And.intro ?_ ?_) | omega))) | ((first | refine aG (fun h => ?_) (fun h => ?_) | refine aD (fun h => ?_) (fun h => ?_) | refine aX (fun h => ?_) (fun h => ?_)) <;> simp only [h]) | refine awp_cond_t rfl ?_ | refine awp_cond_f rfl ?_ | ((refine awp_cond rfl (fun h => ?_) (fun h => ?_) <;> try simp only [ifs] at h) <;> (try (exfalso; omega))) | refine awp_ret ?_))
    (refine retA_is (by (simp (implicitDefEqProofs := false) (maxSteps := 2000000) (disch := omega) only [go_sem, Go.Proofs.Tryz.results88]); rfl) ?_; refine eN hE ?_; simp [oneA, ren, renL])
    rw [← hno, List.drop_of_length_le (by omega)]; rfl
set_option maxRecDepth 100000 in
set_option maxHeartbeats 4000000 in
theorem names_con {G : List (Nat × List Value)} (T : Tabs G) (t : Bool) (l : List ByteArray) (hl : l.length ≤ 1048576) (hs : ∀ s ∈ l, okS s) : Con Go.Proofs.Tryz.prog G 115 [.ro t 1 (l.map eStr)] [] 0 (Is (.r (.int .i64 (namesM l))) [] 0) No := by
  refine con_of_awp Go.Proofs.Tryz.func115 rfl (by kernel_rfl) (of_decide_eq_true (by kernel_rfl)) ?_; intro E hG hE; subst hG; simp only [ent]
  (repeat' (first | refine awp_seq ?_ | refine awp_block ?_ | refine awp_skip ?_ | refine awp_exit ?_ | ((first | refine rR (fun K kp hK hkp => ?_) | refine iG ?_); simp (implicitDefEqProofs := false) (maxSteps := 2000000) (disch := omega) only [go_sem]; (repeat' (first | (refine hK _ ?_; clear hK hkp kp K) | (with_reducible refine And.intro ?_ ?_) | omega))) | ((first | refine aG (fun h => ?_) (fun h => ?_) | refine aD (fun h => ?_) (fun h => ?_) | refine aX (fun h => ?_) (fun h => ?_)) <;> simp only [h]) | refine awp_cond_t rfl ?_ | refine awp_cond_f rfl ?_ | ((refine awp_cond rfl (fun h => ?_) (fun h => ?_) <;> try simp only [ifs] at h) <;> (try (exfalso; omega))) | refine awp_ret ?_))
  refine awp_loop (fun k : Nat => ⟨[(8, .r (.int .i64 k)), (7, .r (.int .i64 l.length)), (6, .ro t 1 (l.map eStr))], [], 0⟩) (fun k => k ≤ l.length ∧ namesM (l.drop k) = namesM l) (fun k => l.length - k) 0 ?_ ?_ ?_
  · simp
  · (refine emb [] ?_ ?_ rfl ?_ ?_ ?_ ?_ <;> simp [okM, okO, lk, ren, renL, renNd, by_, hE] <;> (try omega))
  intro k ⟨hk, hno⟩
  by_cases hk' : k < l.length
  · obtain ⟨s, hx⟩ : ∃ x, l[k]? = some x := ⟨l[k], by simp [hk']⟩
    rw [namesM_step hx] at hno
    have hc := name_con T s (hs s (List.mem_of_getElem? hx))
    by_cases hn : nameM s = 0
    · rw [if_neg (by simpa using hn)] at hno
      rw [hn] at hc
      (repeat' (first | refine awp_seq ?_ | refine awp_block ?_ | refine awp_skip ?_ | refine awp_exit ?_ | ((first | refine rR (fun K kp hK hkp => ?_) | refine cR hc ?_ | refine iG ?_); simp (implicitDefEqProofs := false) (maxSteps := 2000000) (disch := omega) only [go_sem, hx, eStr]; (repeat' (first | (refine hK _ ?_; clear hK hkp kp K) | (with_reducible refine And.intro ?_ ?_) | omega))) | ((first | refine aG (fun h => ?_) (fun h => ?_) | refine aD (fun h => ?_) (fun h => ?_) | refine aX (fun h => ?_) (fun h => ?_)) <;> simp only [h]) | refine awp_cond_t rfl ?_ | refine awp_cond_f rfl ?_ | ((refine awp_cond rfl (fun h => ?_) (fun h => ?_) <;> try simp only [ifs] at h) <;> (try (exfalso; omega))) | refine awp_ret ?_))
      ((first | (refine nextB (k + 1) ?_ ?_ ?_) | (refine nextA (k + 1) ?_ ?_ ?_)); rotate_left; (· (try dsimp only); (first | omega | (simp only [List.length_drop, List.length_cons, List.length_append]; omega) | (simp; done) | (simp; omega))); (· (refine emb [] ?_ ?_ rfl ?_ ?_ ?_ ?_ <;> simp [okM, okO, lk, ren, renL, renNd, by_, hE] <;> (try omega))))
      exact ⟨by omega, hno⟩
    · have hb : (nameM s != 0) = true := by simpa using hn
      rw [if_pos hn] at hno
      (repeat' (first | refine awp_seq ?_ | refine awp_block ?_ | refine awp_skip ?_ | refine awp_exit ?_ | ((first | refine rR (fun K kp hK hkp => ?_) | refine cR hc ?_ | refine iG ?_); simp (implicitDefEqProofs := false) (maxSteps := 2000000) (disch := omega) only [go_sem, hx, eStr, hb]; (repeat' (first | (refine hK _ ?_; clear hK hkp kp K) | (with_reducible refine And.intro ?_ ?_) | omega))) | ((first | refine aG (fun h => ?_) (fun h => ?_) | refine aD (fun h => ?_) (fun h => ?_) | refine aX (fun h => ?_) (fun h => ?_)) <;> simp only [h]) | refine awp_cond_t rfl ?_ | refine awp_cond_f rfl ?_ | ((refine awp_cond rfl (fun h => ?_) (fun h => ?_) <;> try simp only [ifs] at h) <;> (try (exfalso; omega))) | refine awp_ret ?_))
      (refine retA_is (by (simp (implicitDefEqProofs := false) (maxSteps := 2000000) (disch := omega) only [go_sem, Go.Proofs.Tryz.results115]); rfl) ?_; refine eN hE ?_; simp [oneA, ren, renL])
      exact hno
  · (repeat' (first | refine awp_seq ?_ | refine awp_block ?_ | refine awp_skip ?_ | refine awp_exit ?_ | ((first | refine rR (fun K kp hK hkp => ?_) | refine iG ?_); simp (implicitDefEqProofs := false) (maxSteps := 2000000) (disch := omega) only [go_sem]; (repeat' (first | (refine hK _ ?_; clear hK hkp kp K) | (with_reducible refine And.intro ?_ ?_) | omega))) | ((first | refine aG (fun h => ?_) (fun h => ?_) | refine aD (fun h => ?_) (fun h => ?_) | refine aX (fun h => ?_) (fun h => ?_)) <;> simp only [h]) | refine awp_cond_t rfl ?_ | refine awp_cond_f rfl ?_ | ((refine awp_cond rfl (fun h => ?_) (fun h => ?_) <;> try simp only [ifs] at h) <;> (try (exfalso; omega))) | refine awp_ret ?_))
    (refine retA_is (by (simp (implicitDefEqProofs := false) (maxSteps := 2000000) (disch := omega) only [go_sem, Go.Proofs.Tryz.results115]); rfl) ?_; refine eN hE ?_; simp [oneA, ren, renL])
    rw [← hno, List.drop_of_length_le (by omega)]; rfl
theorem where_con {G : List (Nat × List Value)} (T : Tabs G) (t : Bool) (l : List OP) (hl : l.length ≤ 1048576) (hs : ∀ o ∈ l, okO1 o) : Con Go.Proofs.Tryz.prog G 90 [.ro t 5 (l.map eO)] [] 0 (Is (.r (.int .i64 (whereM l))) [] 0) No := by
  refine con_of_awp Go.Proofs.Tryz.func90 rfl (by kernel_rfl) (of_decide_eq_true (by kernel_rfl)) ?_; intro E hG hE; subst hG; simp only [ent]
  by_cases h0 : l.length = 0
  · have d1 : ((l.length : Int) == 0) = true := by simp [h0]
    (repeat' (first | refine awp_seq ?_ | refine awp_block ?_ | refine awp_skip ?_ | refine awp_exit ?_ | ((first | refine rR (fun K kp hK hkp => ?_) | refine iG ?_); simp (implicitDefEqProofs := false) (maxSteps := 2000000) (disch := omega) only [go_sem, d1]; (repeat' (first | (refine hK _ ?_; clear hK hkp kp K) | (with_reducible refine And.intro ?_ ?_) | omega))) | ((first | refine aG (fun h => ?_) (fun h => ?_) | refine aD (fun h => ?_) (fun h => ?_) | refine aX (fun h => ?_) (fun h => ?_)) <;> simp only [h]) | refine awp_cond_t rfl ?_ | refine awp_cond_f rfl ?_ | ((refine awp_cond rfl (fun h => ?_) (fun h => ?_) <;> try simp only [ifs] at h) <;> (try (exfalso; omega))) | refine awp_ret ?_))
    (refine retA_is (by (simp (implicitDefEqProofs := false) (maxSteps := 2000000) (disch := omega) only [go_sem, Go.Proofs.Tryz.results90, whereM, h0]); rfl) ?_; refine eN hE ?_; simp [oneA, ren, renL, whereM, h0])
  · have d1 : ((l.length : Int) == 0) = false := by simpa using h0
    (repeat' (first | refine awp_seq ?_ | refine awp_block ?_ | refine awp_skip ?_ | refine awp_exit ?_ | ((first | refine rR (fun K kp hK hkp => ?_) | refine cR (expression_con T t l hl hs) ?_ | refine iG ?_); simp (implicitDefEqProofs := false) (maxSteps := 2000000) (disch := omega) only [go_sem, d1]; (repeat' (first | (refine hK _ ?_; clear hK hkp kp K) | (with_reducible refine And.intro ?_ ?_) | omega))) | ((first | refine aG (fun h => ?_) (fun h => ?_) | refine aD (fun h => ?_) (fun h => ?_) | refine aX (fun h => ?_) (fun h => ?_)) <;> simp only [h]) | refine awp_cond_t rfl ?_ | refine awp_cond_f rfl ?_ | ((refine awp_cond rfl (fun h => ?_) (fun h => ?_) <;> try simp only [ifs] at h) <;> (try (exfalso; omega))) | refine awp_ret ?_))
    (refine retA_is (by (simp (implicitDefEqProofs := false) (maxSteps := 2000000) (disch := omega) only [go_sem, Go.Proofs.Tryz.results90, whereM, h0]); rfl) ?_; refine eN hE ?_; simp [oneA, ren, renL, whereM, h0])

def bareB (s h : ST) : Bool := (s.tab.toList == h.tab.toList) && ((s.cols.length : Int) == (h.cols.length : Int)) && ((s.row.length : Int) == (h.row.length : Int)) && ((s.names.length : Int) == (h.names.length : Int)) && (s.count == h.count) && ((s.wh.length : Int) == (h.wh.length : Int)) && (s.ord.toList == h.ord.toList) && (s.down == h.down) && (s.lim == h.lim) && (s.set.toList == h.set.toList) && ((s.to.length : Int) == (h.to.length : Int))
set_option maxRecDepth 100000 in
set_option maxHeartbeats 8000000 in
theorem bare_con (G : List (Nat × List Value)) (s h : ST) : Con Go.Proofs.Tryz.prog G 91 [.agg (eST s), .agg (eST h)] [] 0 (Is (.r (.bool (bareB s h))) [] 0) No := by
  refine con_of_awp Go.Proofs.Tryz.func91 rfl (by kernel_rfl) (of_decide_eq_true (by kernel_rfl)) ?_; intro E hG hE; subst hG; simp only [ent]
  cases c0 : (s.tab.toList == h.tab.toList)
  · (repeat' (first | refine awp_seq ?_ | refine awp_block ?_ | refine awp_skip ?_ | refine awp_exit ?_ | ((first | refine rR (fun K kp hK hkp => ?_) | refine iG ?_); simp (implicitDefEqProofs := false) (maxSteps := 2000000) (disch := omega) only [go_sem, eST, c0]; (repeat' (first | (refine hK _ ?_; clear hK hkp kp K) | (with_reducible refine And.intro ?_ ?_) | omega))) | ((first | refine aG (fun h => ?_) (fun h => ?_) | refine aD (fun h => ?_) (fun h => ?_) | refine aX (fun h => ?_) (fun h => ?_)) <;> simp only [h]) | refine awp_cond_t rfl ?_ | refine awp_cond_f rfl ?_ | ((refine awp_cond rfl (fun h => ?_) (fun h => ?_) <;> try simp only [ifs] at h) <;> (try (exfalso; omega))) | refine awp_ret ?_))
    (refine retA_is (by (simp (implicitDefEqProofs := false) (maxSteps := 2000000) (disch := omega) only [go_sem, Go.Proofs.Tryz.results91, bareB, c0]); rfl) ?_; refine eN hE ?_; simp [oneA, ren, renL, bareB, c0])
  cases c1 : ((s.cols.length : Int) == (h.cols.length : Int))
  · (repeat' (first | refine awp_seq ?_ | refine awp_block ?_ | refine awp_skip ?_ | refine awp_exit ?_ | ((first | refine rR (fun K kp hK hkp => ?_) | refine iG ?_); simp (implicitDefEqProofs := false) (maxSteps := 2000000) (disch := omega) only [go_sem, eST, c0, c1]; (repeat' (first | (refine hK _ ?_; clear hK hkp kp K) | (with_reducible refine And.intro ?_ ?_) | omega))) | ((first | refine aG (fun h => ?_) (fun h => ?_) | refine aD (fun h => ?_) (fun h => ?_) | refine aX (fun h => ?_) (fun h => ?_)) <;> simp only [h]) | refine awp_cond_t rfl ?_ | refine awp_cond_f rfl ?_ | ((refine awp_cond rfl (fun h => ?_) (fun h => ?_) <;> try simp only [ifs] at h) <;> (try (exfalso; omega))) | refine awp_ret ?_))
    (refine retA_is (by (simp (implicitDefEqProofs := false) (maxSteps := 2000000) (disch := omega) only [go_sem, Go.Proofs.Tryz.results91, bareB, c0, c1]); rfl) ?_; refine eN hE ?_; simp [oneA, ren, renL, bareB, c0, c1])
  cases c2 : ((s.row.length : Int) == (h.row.length : Int))
  · (repeat' (first | refine awp_seq ?_ | refine awp_block ?_ | refine awp_skip ?_ | refine awp_exit ?_ | ((first | refine rR (fun K kp hK hkp => ?_) | refine iG ?_); simp (implicitDefEqProofs := false) (maxSteps := 2000000) (disch := omega) only [go_sem, eST, c0, c1, c2]; (repeat' (first | (refine hK _ ?_; clear hK hkp kp K) | (with_reducible refine And.intro ?_ ?_) | omega))) | ((first | refine aG (fun h => ?_) (fun h => ?_) | refine aD (fun h => ?_) (fun h => ?_) | refine aX (fun h => ?_) (fun h => ?_)) <;> simp only [h]) | refine awp_cond_t rfl ?_ | refine awp_cond_f rfl ?_ | ((refine awp_cond rfl (fun h => ?_) (fun h => ?_) <;> try simp only [ifs] at h) <;> (try (exfalso; omega))) | refine awp_ret ?_))
    (refine retA_is (by (simp (implicitDefEqProofs := false) (maxSteps := 2000000) (disch := omega) only [go_sem, Go.Proofs.Tryz.results91, bareB, c0, c1, c2]); rfl) ?_; refine eN hE ?_; simp [oneA, ren, renL, bareB, c0, c1, c2])
  cases c3 : ((s.names.length : Int) == (h.names.length : Int))
  · (repeat' (first | refine awp_seq ?_ | refine awp_block ?_ | refine awp_skip ?_ | refine awp_exit ?_ | ((first | refine rR (fun K kp hK hkp => ?_) | refine iG ?_); simp (implicitDefEqProofs := false) (maxSteps := 2000000) (disch := omega) only [go_sem, eST, c0, c1, c2, c3]; (repeat' (first | (refine hK _ ?_; clear hK hkp kp K) | (with_reducible refine And.intro ?_ ?_) | omega))) | ((first | refine aG (fun h => ?_) (fun h => ?_) | refine aD (fun h => ?_) (fun h => ?_) | refine aX (fun h => ?_) (fun h => ?_)) <;> simp only [h]) | refine awp_cond_t rfl ?_ | refine awp_cond_f rfl ?_ | ((refine awp_cond rfl (fun h => ?_) (fun h => ?_) <;> try simp only [ifs] at h) <;> (try (exfalso; omega))) | refine awp_ret ?_))
    (refine retA_is (by (simp (implicitDefEqProofs := false) (maxSteps := 2000000) (disch := omega) only [go_sem, Go.Proofs.Tryz.results91, bareB, c0, c1, c2, c3]); rfl) ?_; refine eN hE ?_; simp [oneA, ren, renL, bareB, c0, c1, c2, c3])
  cases c4 : (s.count == h.count)
  · (repeat' (first | refine awp_seq ?_ | refine awp_block ?_ | refine awp_skip ?_ | refine awp_exit ?_ | ((first | refine rR (fun K kp hK hkp => ?_) | refine iG ?_); simp (implicitDefEqProofs := false) (maxSteps := 2000000) (disch := omega) only [go_sem, eST, c0, c1, c2, c3, c4]; (repeat' (first | (refine hK _ ?_; clear hK hkp kp K) | (with_reducible refine And.intro ?_ ?_) | omega))) | ((first | refine aG (fun h => ?_) (fun h => ?_) | refine aD (fun h => ?_) (fun h => ?_) | refine aX (fun h => ?_) (fun h => ?_)) <;> simp only [h]) | refine awp_cond_t rfl ?_ | refine awp_cond_f rfl ?_ | ((refine awp_cond rfl (fun h => ?_) (fun h => ?_) <;> try simp only [ifs] at h) <;> (try (exfalso; omega))) | refine awp_ret ?_))
    (refine retA_is (by (simp (implicitDefEqProofs := false) (maxSteps := 2000000) (disch := omega) only [go_sem, Go.Proofs.Tryz.results91, bareB, c0, c1, c2, c3, c4]); rfl) ?_; refine eN hE ?_; simp [oneA, ren, renL, bareB, c0, c1, c2, c3, c4])
  cases c5 : ((s.wh.length : Int) == (h.wh.length : Int))
  · (repeat' (first | refine awp_seq ?_ | refine awp_block ?_ | refine awp_skip ?_ | refine awp_exit ?_ | ((first | refine rR (fun K kp hK hkp => ?_) | refine iG ?_); simp (implicitDefEqProofs := false) (maxSteps := 2000000) (disch := omega) only [go_sem, eST, c0, c1, c2, c3, c4, c5]; (repeat' (first | (refine hK _ ?_; clear hK hkp kp K) | (with_reducible refine And.intro ?_ ?_) | omega))) | ((first | refine aG (fun h => ?_) (fun h => ?_) | refine aD (fun h => ?_) (fun h => ?_) | refine aX (fun h => ?_) (fun h => ?_)) <;> simp only [h]) | refine awp_cond_t rfl ?_ | refine awp_cond_f rfl ?_ | ((refine awp_cond rfl (fun h => ?_) (fun h => ?_) <;> try simp only [ifs] at h) <;> (try (exfalso; omega))) | refine awp_ret ?_))
    (refine retA_is (by (simp (implicitDefEqProofs := false) (maxSteps := 2000000) (disch := omega) only [go_sem, Go.Proofs.Tryz.results91, bareB, c0, c1, c2, c3, c4, c5]); rfl) ?_; refine eN hE ?_; simp [oneA, ren, renL, bareB, c0, c1, c2, c3, c4, c5])
  cases c6 : (s.ord.toList == h.ord.toList)
  · (repeat' (first | refine awp_seq ?_ | refine awp_block ?_ | refine awp_skip ?_ | refine awp_exit ?_ | ((first | refine rR (fun K kp hK hkp => ?_) | refine iG ?_); simp (implicitDefEqProofs := false) (maxSteps := 2000000) (disch := omega) only [go_sem, eST, c0, c1, c2, c3, c4, c5, c6]; (repeat' (first | (refine hK _ ?_; clear hK hkp kp K) | (with_reducible refine And.intro ?_ ?_) | omega))) | ((first | refine aG (fun h => ?_) (fun h => ?_) | refine aD (fun h => ?_) (fun h => ?_) | refine aX (fun h => ?_) (fun h => ?_)) <;> simp only [h]) | refine awp_cond_t rfl ?_ | refine awp_cond_f rfl ?_ | ((refine awp_cond rfl (fun h => ?_) (fun h => ?_) <;> try simp only [ifs] at h) <;> (try (exfalso; omega))) | refine awp_ret ?_))
    (refine retA_is (by (simp (implicitDefEqProofs := false) (maxSteps := 2000000) (disch := omega) only [go_sem, Go.Proofs.Tryz.results91, bareB, c0, c1, c2, c3, c4, c5, c6]); rfl) ?_; refine eN hE ?_; simp [oneA, ren, renL, bareB, c0, c1, c2, c3, c4, c5, c6])
  cases c7 : (s.down == h.down)
  · (repeat' (first | refine awp_seq ?_ | refine awp_block ?_ | refine awp_skip ?_ | refine awp_exit ?_ | ((first | refine rR (fun K kp hK hkp => ?_) | refine iG ?_); simp (implicitDefEqProofs := false) (maxSteps := 2000000) (disch := omega) only [go_sem, eST, c0, c1, c2, c3, c4, c5, c6, c7]; (repeat' (first | (refine hK _ ?_; clear hK hkp kp K) | (with_reducible refine And.intro ?_ ?_) | omega))) | ((first | refine aG (fun h => ?_) (fun h => ?_) | refine aD (fun h => ?_) (fun h => ?_) | refine aX (fun h => ?_) (fun h => ?_)) <;> simp only [h]) | refine awp_cond_t rfl ?_ | refine awp_cond_f rfl ?_ | ((refine awp_cond rfl (fun h => ?_) (fun h => ?_) <;> try simp only [ifs] at h) <;> (try (exfalso; omega))) | refine awp_ret ?_))
    (refine retA_is (by (simp (implicitDefEqProofs := false) (maxSteps := 2000000) (disch := omega) only [go_sem, Go.Proofs.Tryz.results91, bareB, c0, c1, c2, c3, c4, c5, c6, c7]); rfl) ?_; refine eN hE ?_; simp [oneA, ren, renL, bareB, c0, c1, c2, c3, c4, c5, c6, c7])
  cases c8 : (s.lim == h.lim)
  · (repeat' (first | refine awp_seq ?_ | refine awp_block ?_ | refine awp_skip ?_ | refine awp_exit ?_ | ((first | refine rR (fun K kp hK hkp => ?_) | refine iG ?_); simp (implicitDefEqProofs := false) (maxSteps := 2000000) (disch := omega) only [go_sem, eST, c0, c1, c2, c3, c4, c5, c6, c7, c8]; (repeat' (first | (refine hK _ ?_; clear hK hkp kp K) | (with_reducible refine And.intro ?_ ?_) | omega))) | ((first | refine aG (fun h => ?_) (fun h => ?_) | refine aD (fun h => ?_) (fun h => ?_) | refine aX (fun h => ?_) (fun h => ?_)) <;> simp only [h]) | refine awp_cond_t rfl ?_ | refine awp_cond_f rfl ?_ | ((refine awp_cond rfl (fun h => ?_) (fun h => ?_) <;> try simp only [ifs] at h) <;> (try (exfalso; omega))) | refine awp_ret ?_))
    (refine retA_is (by (simp (implicitDefEqProofs := false) (maxSteps := 2000000) (disch := omega) only [go_sem, Go.Proofs.Tryz.results91, bareB, c0, c1, c2, c3, c4, c5, c6, c7, c8]); rfl) ?_; refine eN hE ?_; simp [oneA, ren, renL, bareB, c0, c1, c2, c3, c4, c5, c6, c7, c8])
  cases c9 : (s.set.toList == h.set.toList)
  · (repeat' (first | refine awp_seq ?_ | refine awp_block ?_ | refine awp_skip ?_ | refine awp_exit ?_ | ((first | refine rR (fun K kp hK hkp => ?_) | refine iG ?_); simp (implicitDefEqProofs := false) (maxSteps := 2000000) (disch := omega) only [go_sem, eST, c0, c1, c2, c3, c4, c5, c6, c7, c8, c9]; (repeat' (first | (refine hK _ ?_; clear hK hkp kp K) | (with_reducible refine And.intro ?_ ?_) | omega))) | ((first | refine aG (fun h => ?_) (fun h => ?_) | refine aD (fun h => ?_) (fun h => ?_) | refine aX (fun h => ?_) (fun h => ?_)) <;> simp only [h]) | refine awp_cond_t rfl ?_ | refine awp_cond_f rfl ?_ | ((refine awp_cond rfl (fun h => ?_) (fun h => ?_) <;> try simp only [ifs] at h) <;> (try (exfalso; omega))) | refine awp_ret ?_))
    (refine retA_is (by (simp (implicitDefEqProofs := false) (maxSteps := 2000000) (disch := omega) only [go_sem, Go.Proofs.Tryz.results91, bareB, c0, c1, c2, c3, c4, c5, c6, c7, c8, c9]); rfl) ?_; refine eN hE ?_; simp [oneA, ren, renL, bareB, c0, c1, c2, c3, c4, c5, c6, c7, c8, c9])
  cases c10 : ((s.to.length : Int) == (h.to.length : Int))
  · (repeat' (first | refine awp_seq ?_ | refine awp_block ?_ | refine awp_skip ?_ | refine awp_exit ?_ | ((first | refine rR (fun K kp hK hkp => ?_) | refine iG ?_); simp (implicitDefEqProofs := false) (maxSteps := 2000000) (disch := omega) only [go_sem, eST, c0, c1, c2, c3, c4, c5, c6, c7, c8, c9, c10]; (repeat' (first | (refine hK _ ?_; clear hK hkp kp K) | (with_reducible refine And.intro ?_ ?_) | omega))) | ((first | refine aG (fun h => ?_) (fun h => ?_) | refine aD (fun h => ?_) (fun h => ?_) | refine aX (fun h => ?_) (fun h => ?_)) <;> simp only [h]) | refine awp_cond_t rfl ?_ | refine awp_cond_f rfl ?_ | ((refine awp_cond rfl (fun h => ?_) (fun h => ?_) <;> try simp only [ifs] at h) <;> (try (exfalso; omega))) | refine awp_ret ?_))
    (refine retA_is (by (simp (implicitDefEqProofs := false) (maxSteps := 2000000) (disch := omega) only [go_sem, Go.Proofs.Tryz.results91, bareB, c0, c1, c2, c3, c4, c5, c6, c7, c8, c9, c10]); rfl) ?_; refine eN hE ?_; simp [oneA, ren, renL, bareB, c0, c1, c2, c3, c4, c5, c6, c7, c8, c9, c10])
  (repeat' (first | refine awp_seq ?_ | refine awp_block ?_ | refine awp_skip ?_ | refine awp_exit ?_ | ((first | refine rR (fun K kp hK hkp => ?_) | refine iG ?_); simp (implicitDefEqProofs := false) (maxSteps := 2000000) (disch := omega) only [go_sem, eST, c0, c1, c2, c3, c4, c5, c6, c7, c8, c9, c10]; (repeat' (first | (refine hK _ ?_; clear hK hkp kp K) | (with_reducible refine And.intro ?_ ?_) | omega))) | ((first | refine aG (fun h => ?_) (fun h => ?_) | refine aD (fun h => ?_) (fun h => ?_) | refine aX (fun h => ?_) (fun h => ?_)) <;> simp only [h]) | refine awp_cond_t rfl ?_ | refine awp_cond_f rfl ?_ | ((refine awp_cond rfl (fun h => ?_) (fun h => ?_) <;> try simp only [ifs] at h) <;> (try (exfalso; omega))) | refine awp_ret ?_))
  (refine retA_is (by (simp (implicitDefEqProofs := false) (maxSteps := 2000000) (disch := omega) only [go_sem, Go.Proofs.Tryz.results91, bareB, c0, c1, c2, c3, c4, c5, c6, c7, c8, c9, c10]); rfl) ?_; refine eN hE ?_; simp [oneA, ren, renL, bareB, c0, c1, c2, c3, c4, c5, c6, c7, c8, c9, c10])
end Go.AM
/- Lists that are copied. -/
namespace Go.AM
open Go Go.RowKit
open Go.Proofs.YtoecmmpjndcolaaGreatDoor (OP nameM litM exprM marksS wordsS StrsAt str SlAt)
attribute [local irreducible] AWP retA
theorem cols_copy (G : List (Nat × List Value)) (t : Bool) (l : List CO) (hl : l.length ≤ 1048576) : Con Go.Proofs.Tryz.prog G 6 [.ro t 2 (l.map eC)] [] 0 (Is (.ro true 2 (l.map eC)) [] 0) No := by
  refine con_of_awp Go.Proofs.Tryz.func6 rfl (by kernel_rfl) (of_decide_eq_true (by kernel_rfl)) ?_; intro E hG hE; subst hG; simp only [ent]
  (repeat' (first | refine awp_seq ?_ | refine awp_block ?_ | refine awp_skip ?_ | refine awp_exit ?_ | ((first | refine rR (fun K kp hK hkp => ?_) | refine iG ?_); simp (implicitDefEqProofs := false) (maxSteps := 2000000) (disch := omega) only [go_sem]; (repeat' (first | (refine hK _ ?_; clear hK hkp kp K) | (with_reducible refine And.intro ?_ ?_) | omega))) | ((first | refine aG (fun h => ?_) (fun h => ?_) | refine aD (fun h => ?_) (fun h => ?_) | refine aX (fun h => ?_) (fun h => ?_)) <;> simp only [h]) | refine awp_cond_t rfl ?_ | refine awp_cond_f rfl ?_ | ((refine awp_cond rfl (fun h => ?_) (fun h => ?_) <;> try simp only [ifs] at h) <;> (try (exfalso; omega))) | refine awp_ret ?_))
  (refine retA_is (by (simp (implicitDefEqProofs := false) (maxSteps := 2000000) (disch := omega) only [go_sem, Go.Proofs.Tryz.results6]); rfl) ?_; refine embS_frz (by simp only [oneA]; simp (implicitDefEqProofs := false) (maxSteps := 2000000) (disch := omega) only [go_sem]; rfl) ?_; refine (embV_nil hE (by simp) ?_).s; simp [oneA, ren, renL])
theorem values_copy (G : List (Nat × List Value)) (t : Bool) (l : List V) (hl : l.length ≤ 1048576) : Con Go.Proofs.Tryz.prog G 7 [.ro t 3 (l.map eV)] [] 0 (Is (.ro true 3 (l.map eV)) [] 0) No := by
  refine con_of_awp Go.Proofs.Tryz.func7 rfl (by kernel_rfl) (of_decide_eq_true (by kernel_rfl)) ?_; intro E hG hE; subst hG; simp only [ent]
  (repeat' (first | refine awp_seq ?_ | refine awp_block ?_ | refine awp_skip ?_ | refine awp_exit ?_ | ((first | refine rR (fun K kp hK hkp => ?_) | refine iG ?_); simp (implicitDefEqProofs := false) (maxSteps := 2000000) (disch := omega) only [go_sem]; (repeat' (first | (refine hK _ ?_; clear hK hkp kp K) | (with_reducible refine And.intro ?_ ?_) | omega))) | ((first | refine aG (fun h => ?_) (fun h => ?_) | refine aD (fun h => ?_) (fun h => ?_) | refine aX (fun h => ?_) (fun h => ?_)) <;> simp only [h]) | refine awp_cond_t rfl ?_ | refine awp_cond_f rfl ?_ | ((refine awp_cond rfl (fun h => ?_) (fun h => ?_) <;> try simp only [ifs] at h) <;> (try (exfalso; omega))) | refine awp_ret ?_))
  (refine retA_is (by (simp (implicitDefEqProofs := false) (maxSteps := 2000000) (disch := omega) only [go_sem, Go.Proofs.Tryz.results7]); rfl) ?_; refine embS_frz (by simp only [oneA]; simp (implicitDefEqProofs := false) (maxSteps := 2000000) (disch := omega) only [go_sem]; rfl) ?_; refine (embV_nil hE (by simp) ?_).s; simp [oneA, ren, renL])
@[simp] theorem ptA_eO (a : OP) : (∀ x, x ∈ eO a → PT x) = True := eq_true (by intro x hx; simp [eO] at hx; rcases hx with rfl | rfl | rfl | rfl | rfl <;> exact .r _)
instance : PTf eO := ⟨fun a => of_eq_true (ptA_eO a)⟩
theorem ops_copy (G : List (Nat × List Value)) (t : Bool) (l : List OP) (hl : l.length ≤ 1048576) : Con Go.Proofs.Tryz.prog G 8 [.ro t 5 (l.map eO)] [] 0 (Is (.ro true 5 (l.map eO)) [] 0) No := by
  refine con_of_awp Go.Proofs.Tryz.func8 rfl (by kernel_rfl) (of_decide_eq_true (by kernel_rfl)) ?_; intro E hG hE; subst hG; simp only [ent]
  (repeat' (first | refine awp_seq ?_ | refine awp_block ?_ | refine awp_skip ?_ | refine awp_exit ?_ | ((first | refine rR (fun K kp hK hkp => ?_) | refine iG ?_); simp (implicitDefEqProofs := false) (maxSteps := 2000000) (disch := omega) only [go_sem]; (repeat' (first | (refine hK _ ?_; clear hK hkp kp K) | (with_reducible refine And.intro ?_ ?_) | omega))) | ((first | refine aG (fun h => ?_) (fun h => ?_) | refine aD (fun h => ?_) (fun h => ?_) | refine aX (fun h => ?_) (fun h => ?_)) <;> simp only [h]) | refine awp_cond_t rfl ?_ | refine awp_cond_f rfl ?_ | ((refine awp_cond rfl (fun h => ?_) (fun h => ?_) <;> try simp only [ifs] at h) <;> (try (exfalso; omega))) | refine awp_ret ?_))
  (refine retA_is (by (simp (implicitDefEqProofs := false) (maxSteps := 2000000) (disch := omega) only [go_sem, Go.Proofs.Tryz.results8]); rfl) ?_; refine embS_frz (by simp only [oneA]; simp (implicitDefEqProofs := false) (maxSteps := 2000000) (disch := omega) only [go_sem]; rfl) ?_; refine (embV_nil hE (by simp) ?_).s; simp [oneA, ren, renL])
end Go.AM
namespace Go.Proofs.YtoecmmpjndcolaaGreatDoor
open Go.RowKit Go.AM
theorem cellsOpA : Tryz.prog.cellsOf 58 = 5 := by kernel_rfl
end Go.Proofs.YtoecmmpjndcolaaGreatDoor
/- What fits into 64 bits. -/
namespace Go.AM
def inI (n : Int) : Prop := -9223372036854775808 ≤ n ∧ n ≤ 9223372036854775807
end Go.AM
/- A value whose parts fit. -/
namespace Go.AM
open Go Go.RowKit
def gV (v : V) : Prop := v.s.size ≤ maxLen ∧ inI v.n
end Go.AM
/- How values and ops that came in read, with the bounds of their numbers. -/
namespace Go.Proofs.YtoecmmpjndcolaaGreatDoor
open Go.ChangeShapes Go.WideShapes Go.ChangeAt Go.RowKit Go.AM
theorem lit_in {n : Int} (h : (Lit.int .i64 n).wf = true) : inI n := by
  simp only [Lit.wf, Bool.and_eq_true, decide_eq_true_eq] at h
  exact ⟨h.1, h.2⟩
set_option maxRecDepth 100000 in
theorem leaf_valI {H : Type} {E : TypeId × Value → H} {w : World} {base : Nat} {spare : Nat → Bool} {held : Bool} (fuel : Nat) (cs : List Value) (x : DataW H × List MemPlace)
    (h : DataW.trod E Tryz.prog w base spare held fuel 26 cs = some x) : ∃ y : V, Reps w (zAll w) [] (eV y) cs ∧ (∀ v ∈ cs, v.oneCell' = true) ∧ gV y := by
  obtain ⟨y0, y1, y2, n, _, hl, h0, h1, h2⟩ := Deep.trod_struct3 Tryz.underlying26 h
  rw [cellsVal] at hl
  obtain ⟨c0, c1, c2, rfl⟩ : ∃ a b c, cs = [a, b, c] := by
    match cs, hl with
    | [a, b, c], _ => exact ⟨a, b, c, rfl⟩
  obtain ⟨k, e0, _, _⟩ := DataW.trod_int Tryz.underlying3 h0
  obtain ⟨m, e1, _, wm⟩ := DataW.trod_int Tryz.underlying3 h1
  obtain ⟨s, e2, _, w0⟩ := DataW.trod_string Tryz.underlying9 h2
  rw [show Tryz.prog.cellsOf 3 = 1 by kernel_rfl] at e0 e1
  rw [show Tryz.prog.cellsOf 9 = 1 by kernel_rfl] at e2
  simp at e0 e1 e2
  subst e0 e1 e2
  exact ⟨⟨k, m, s⟩, .cons (.r _ _) (.cons (.r _ _) (.cons (.r _ _) .nil)), by simp [Value.oneCell'], w0, lit_in wm⟩
set_option maxRecDepth 100000 in
/-- Values that came in. -/
theorem open_valuesI {H : Type} {E : TypeId × Value → H} {w : World} {base : Nat} {spare : Nat → Bool} {held : Bool} {b0 : Nat} {v : Value} {d : DataW H} {p : List MemPlace}
    (hv : Value.okWide Tryz.prog w .any b0 23 v) (h : DataW.Trod E Tryz.prog w base spare held 23 v d p) :
    ∃ l : List V, Rep w (zAll w) [] (.ro true 3 (l.map eV)) v ∧ l.length ≤ Rows.uptoBulk d ∧ ∀ c ∈ l, gV c := by
  obtain ⟨f, hf⟩ := h
  obtain ⟨u, l, h1, h2, _, h3⟩ := open_ro eV (fun y _ => gV y) true Tryz.underlying23 cellsVal (by omega) leaf_valI hf
  obtain ⟨a', n', c', rfl⟩ := okWide_slice Tryz.underlying23 hv
  obtain rfl : Value.slice a' n' c' = u := List.head_eq_of_cons_eq (show [Value.slice a' n' c'] = [u] from h1)
  refine ⟨l, h2, bulk_of h3, fun c hc => ?_⟩
  obtain ⟨i, hi⟩ := List.mem_iff_getElem?.1 hc
  rcases h3 with ⟨rfl, _⟩ | ⟨ds, rest, _, _, h6⟩
  · simp at hi
  · exact (h6 i c hi).choose_spec.2

set_option maxRecDepth 100000 in
theorem leaf_opI {H : Type} {E : TypeId × Value → H} {w : World} {base : Nat} {spare : Nat → Bool} {held : Bool} (fuel : Nat) (cs : List Value) (x : DataW H × List MemPlace)
    (h : DataW.trod E Tryz.prog w base spare held fuel 58 cs = some x) : ∃ y : OP, Reps w (zAll w) [] (eO y) cs ∧ (∀ v ∈ cs, v.oneCell' = true) ∧ okO1 y ∧ gV ⟨y.vk, y.vn, y.vs⟩ := by
  obtain ⟨y0, y1, y2, n, _, hl, h0, h1, h2⟩ := Deep.trod_struct3 Tryz.underlying58 h
  rw [cellsOpA] at hl
  obtain ⟨c0, c1, c2, c3, c4, rfl⟩ : ∃ a b c d e, cs = [a, b, c, d, e] := by
    match cs, hl with
    | [a, b, c, d, e], _ => exact ⟨a, b, c, d, e, rfl⟩
  obtain ⟨k, e0, _, _⟩ := DataW.trod_int Tryz.underlying3 h0
  obtain ⟨⟨vk, vn, vs⟩, e1, _, w1⟩ := leaf_valI _ _ _ h1
  obtain ⟨s, e2, _, w2⟩ := DataW.trod_string Tryz.underlying9 h2
  rw [show Tryz.prog.cellsOf 3 = 1 by kernel_rfl] at e0
  rw [cellsVal] at e1
  rw [show Tryz.prog.cellsOf 9 = 1 by kernel_rfl] at e2
  simp at e0 e2
  have e1' : Reps w (zAll w) [] (eV ⟨vk, vn, vs⟩) [c1, c2, c3] := by simpa using e1
  obtain ⟨_, _, r1, q1, q2⟩ := e1'.head
  cases r1
  obtain ⟨_, _, r1, q3, q4⟩ := q2.head
  cases r1
  obtain ⟨_, _, r1, q5, _⟩ := q4.head
  cases r1
  obtain rfl := q1.r_inv
  obtain rfl := q3.r_inv
  obtain rfl := q5.r_inv
  subst e0 e2
  exact ⟨⟨k, vk, vn, vs, s⟩, .cons (.r _ _) (.cons (.r _ _) (.cons (.r _ _) (.cons (.r _ _) (.cons (.r _ _) .nil)))), by simp [Value.oneCell'], ⟨w1.1, w2⟩, w1⟩
set_option maxRecDepth 100000 in
/-- Ops that came in. -/
theorem open_opsI {H : Type} {E : TypeId × Value → H} {w : World} {base : Nat} {spare : Nat → Bool} {held : Bool} {b0 : Nat} {v : Value} {d : DataW H} {p : List MemPlace}
    (hv : Value.okWide Tryz.prog w .any b0 24 v) (h : DataW.Trod E Tryz.prog w base spare held 24 v d p) :
    ∃ l : List OP, Rep w (zAll w) [] (.ro true 5 (l.map eO)) v ∧ l.length ≤ Rows.uptoBulk d ∧ ∀ c ∈ l, okO1 c ∧ gV ⟨c.vk, c.vn, c.vs⟩ := by
  obtain ⟨f, hf⟩ := h
  obtain ⟨u, l, h1, h2, _, h3⟩ := open_ro eO (fun y _ => okO1 y ∧ gV ⟨y.vk, y.vn, y.vs⟩) true Tryz.underlying24 cellsOpA (by omega) leaf_opI hf
  obtain ⟨a', n', c', rfl⟩ := okWide_slice Tryz.underlying24 hv
  obtain rfl : Value.slice a' n' c' = u := List.head_eq_of_cons_eq (show [Value.slice a' n' c'] = [u] from h1)
  refine ⟨l, h2, bulk_of h3, fun c hc => ?_⟩
  obtain ⟨i, hi⟩ := List.mem_iff_getElem?.1 hc
  rcases h3 with ⟨rfl, _⟩ | ⟨ds, rest, _, _, h6⟩
  · simp at hi
  · exact (h6 i c hi).choose_spec.2
end Go.Proofs.YtoecmmpjndcolaaGreatDoor
/- Plain laws: a fold of a row of ops over a stack makes what their tree makes. -/
namespace Go.AM
section
variable {α β : Type}
def foldS (ar : α → Nat) (f : α → β → β → Except Int β) (z : β) : List α → List β → Except Int (List β)
  | [], st => .ok st
  | o :: r, st => match f o (if 0 < ar o then st.getD (st.length - ar o) z else z) (if 1 < ar o then st.getD (st.length - ar o + 1) z else z) with
    | .error e => .error e
    | .ok x => foldS ar f z r (st.take (st.length - ar o) ++ [x])
def evT (f : α → β → β → Except Int β) (z : β) : RT α → Except Int β
  | .l o => f o z z
  | .u o t => match evT f z t with
    | .error e => .error e
    | .ok a => f o a z
  | .b o s t => match evT f z s with
    | .error e => .error e
    | .ok a => match evT f z t with
      | .error e => .error e
      | .ok b => f o a b
theorem foldS_tree (ar : α → Nat) (f : α → β → β → Except Int β) (z : β) : ∀ (t : RT α) (rest : List α) (st : List β), t.wf ar →
    foldS ar f z (t.flat ++ rest) st = match evT f z t with
      | .error e => .error e
      | .ok x => foldS ar f z rest (st ++ [x])
  | .l o, rest, st, h => by
    simp only [RT.wf] at h
    simp only [RT.flat, List.cons_append, List.nil_append, foldS, evT, h, Nat.lt_irrefl, if_false, Nat.sub_zero, List.take_length, show ¬ 1 < 0 by omega]
  | .u o t, rest, st, h => by
    obtain ⟨h1, h2⟩ := h
    simp only [RT.flat, List.append_assoc]
    rw [foldS_tree ar f z t _ st h2, evT]
    cases evT f z t with
    | error e => rfl
    | ok a =>
      simp only [List.cons_append, List.nil_append, foldS, h1, List.length_append, List.length_cons, List.length_nil, Nat.add_sub_cancel, show ¬ 1 < 1 by omega, if_false, Nat.zero_add]
      simp
  | .b o s t, rest, st, h => by
    obtain ⟨h1, h2, h3⟩ := h
    simp only [RT.flat, List.append_assoc]
    rw [foldS_tree ar f z s _ st h2, evT]
    cases evT f z s with
    | error e => rfl
    | ok a =>
      simp only
      rw [foldS_tree ar f z t _ _ h3]
      cases evT f z t with
      | error e => rfl
      | ok b =>
        have e1 : (st ++ [a] ++ [b]).length - 2 = st.length := by simp
        have e2 : (st ++ [a] ++ [b]).getD st.length z = a := by simp [List.getD]
        have e3 : (st ++ [a] ++ [b]).getD (st.length + 1) z = b := by simp [List.getD]
        have e4 : (st ++ [a] ++ [b]).take st.length = st := by simp
        simp only [List.cons_append, List.nil_append, foldS, h1, e1, e2, e3, e4, show 0 < 2 by omega, show 1 < 2 by omega, if_true]
end
end Go.AM
/- Plain laws: an expression that may be is a tree. -/
namespace Go.AM
open Go Go.RowKit
open Go.Proofs.YtoecmmpjndcolaaGreatDoor (OP nameM litM exprM exprFrom stepM popsM)
def arO (o : OP) : Nat := (popsM o.k).toNat
theorem arO_le (o : OP) : arO o ≤ 2 := by
  have := (Go.Proofs.YtoecmmpjndcolaaGreatDoor.popsM_bd o.k).2
  simp only [arO]; omega
theorem step_ok {o : OP} {h : Int} (e : stepM o h = 0) : 1 ≤ o.k ∧ o.k ≤ 11 ∧ litM o.vk o.vn o.vs = 0 ∧ (o.k = 2 → nameM o.nm = 0) ∧ popsM o.k ≤ h := by
  unfold stepM at e
  split at e
  · cases e
  rename_i h1
  split at e
  · rename_i h2; exact (h2 e).elim
  rename_i h2
  split at e
  · cases e
  split at e
  · rename_i h3; exact (h3.2 e).elim
  rename_i h3
  split at e
  · cases e
  rename_i h4
  refine ⟨by omega, by omega, by simpa using h2, fun hk => ?_, by omega⟩
  cases Int.decEq (nameM o.nm) 0 with
  | isTrue h => exact h
  | isFalse h => exact (h3 ⟨hk, h⟩).elim
theorem hgt_of_expr : ∀ (l : List OP) (n : Nat), exprFrom l n = 0 → hgt arO l n = some 1
  | [], n, e => by
    unfold exprFrom at e
    split at e
    · cases e
    · rename_i h; simp only [hgt, Option.some.injEq]; simp only [ne_eq, Decidable.not_not] at h; omega
  | o :: r, n, e => by
    unfold exprFrom at e
    split at e
    · rename_i h; exact (h e).elim
    rename_i h
    have hs : stepM o n = 0 := by simpa using h
    obtain ⟨_, _, _, _, hp⟩ := step_ok hs
    have hb := Go.Proofs.YtoecmmpjndcolaaGreatDoor.popsM_bd o.k
    unfold hgt
    have hle : ¬ n < arO o := by simp only [arO]; omega
    rw [if_neg hle]
    refine hgt_of_expr r _ ?_
    have e2 : ((n + 1 - arO o : Nat) : Int) = (n : Int) + 1 - popsM o.k := by simp only [arO] at hle ⊢; omega
    rw [e2]; exact e
theorem expr_steps : ∀ (l : List OP) (n : Int), exprFrom l n = 0 → ∀ o ∈ l, 1 ≤ o.k ∧ o.k ≤ 11 ∧ litM o.vk o.vn o.vs = 0 ∧ (o.k = 2 → nameM o.nm = 0)
  | [], _, _ => by simp
  | o :: r, n, e => by
    unfold exprFrom at e
    split at e
    · rename_i h; exact (h e).elim
    rename_i h
    obtain ⟨h1, h2, h3, h4, _⟩ := step_ok (show stepM o n = 0 by simpa using h)
    intro x hx
    rcases List.mem_cons.1 hx with rfl | hx
    · exact ⟨h1, h2, h3, h4⟩
    · exact expr_steps r _ e x hx
/-- An expression that may be. -/
theorem tree_of_expr {l : List OP} (h : exprM l = 0) : l.length ≤ 40 ∧ (∀ o ∈ l, 1 ≤ o.k ∧ o.k ≤ 11 ∧ litM o.vk o.vn o.vs = 0 ∧ (o.k = 2 → nameM o.nm = 0)) ∧ ∃ t : RT OP, t.wf arO ∧ t.flat = l := by
  unfold exprM at h
  split at h
  · cases h
  · exact ⟨by omega, expr_steps l 0 h, tree_of arO_le (hgt_of_expr l 0 h)⟩
end Go.AM
/- Kinds: the column of a name, on both sides; where a part begins. -/
namespace Go.AM
open Go Go.RowKit
open Go.Proofs.YtoecmmpjndcolaaGreatDoor (OP nameM litM exprM exprFrom stepM popsM)
attribute [local irreducible] AWP retA
def isN (n : ByteArray) (c : CO) : Bool := c.nm.toList == n.toList
/-- The column of a name; -1: there is none. -/
def findM (l : List CO) (n : ByteArray) : Int := idxM (isN n) l 0
set_option maxRecDepth 100000 in
theorem find1_con (u : Bool) (n : ByteArray) (G : List (Nat × List Value)) (x : CO) : Con Go.Proofs.Tryz.prog G 65 [.agg (eC x), .re u [.r (.string n)] 0] [] 0 (Is (.r (.bool (isN n x))) [] 0) No := by
  refine con_of_awp Go.Proofs.Tryz.func65 rfl (by kernel_rfl) (of_decide_eq_true (by kernel_rfl)) ?_; intro E hG hE; subst hG; simp only [ent]
  (repeat' (first | refine awp_seq ?_ | refine awp_block ?_ | refine awp_skip ?_ | refine awp_exit ?_ | ((first | refine rR (fun K kp hK hkp => ?_) | refine iG ?_); simp (implicitDefEqProofs := false) (maxSteps := 2000000) (disch := omega) only [go_sem, eC]; (repeat' (first | (refine hK _ ?_; clear hK hkp kp K) | (with_reducible refine And.intro ?_ ?_) | omega))) | ((first | refine aG (fun h => ?_) (fun h => ?_) | refine aD (fun h => ?_) (fun h => ?_) | refine aX (fun h => ?_) (fun h => ?_)) <;> simp only [h]) | refine awp_cond_t rfl ?_ | refine awp_cond_f rfl ?_ | ((refine awp_cond rfl (fun h => ?_) (fun h => ?_) <;> try simp only [ifs] at h) <;> (try (exfalso; omega))) | refine awp_ret ?_))
  (refine retA_is (by (simp (implicitDefEqProofs := false) (maxSteps := 2000000) (disch := omega) only [go_sem, Go.Proofs.Tryz.results65, isN]); rfl) ?_; refine eN hE ?_; simp [oneA, ren, renL, isN])
set_option maxRecDepth 100000 in
theorem find_con (G : List (Nat × List Value)) (t : Bool) (l : List CO) (n : ByteArray) (hl : l.length ≤ 1048576) : Con Go.Proofs.Tryz.prog G 35 [.ro t 2 (l.map eC), .r (.string n)] [] 0 (Is (.r (.int .i64 (findM l n))) [] 0) No := by
  refine con_of_awp Go.Proofs.Tryz.func35 rfl (by kernel_rfl) (of_decide_eq_true (by kernel_rfl)) ?_; intro E hG hE; subst hG; simp only [ent]
  have ic := indexFuncC_con E.G t l 65 [.re false [.r (.string n)] 0] (isN n) hl (by simp [borL, bor]) (by simp [renL, ren]) (fun G x => find1_con false n G x)
  (repeat' (first | refine awp_seq ?_ | refine awp_block ?_ | refine awp_skip ?_ | refine awp_exit ?_ | ((first | refine rR (fun K kp hK hkp => ?_) | refine cR ic ?_ | refine iG ?_); simp (implicitDefEqProofs := false) (maxSteps := 2000000) (disch := omega) only [go_sem]; (repeat' (first | (refine hK _ ?_; clear hK hkp kp K) | (with_reducible refine And.intro ?_ ?_) | omega))) | ((first | refine aG (fun h => ?_) (fun h => ?_) | refine aD (fun h => ?_) (fun h => ?_) | refine aX (fun h => ?_) (fun h => ?_)) <;> simp only [h]) | refine awp_cond_t rfl ?_ | refine awp_cond_f rfl ?_ | ((refine awp_cond rfl (fun h => ?_) (fun h => ?_) <;> try simp only [ifs] at h) <;> (try (exfalso; omega))) | refine awp_ret ?_))
  (refine retA_is (by (simp (implicitDefEqProofs := false) (maxSteps := 2000000) (disch := omega) only [go_sem, Go.Proofs.Tryz.results35, findM]); rfl) ?_; refine eN hE ?_; simp [oneA, ren, renL, findM])
set_option maxRecDepth 100000 in
theorem colOf_con (G : List (Nat × List Value)) (t : Bool) (l : List CO) (n : ByteArray) (hl : l.length ≤ 1048576) : Con Go.Proofs.Tryz.prog G 39 [.ro t 2 (l.map eC), .r (.string n)] [] 0 (Is (.r (.int .i64 (findM l n))) [] 0) No := by
  refine con_of_awp Go.Proofs.Tryz.func39 rfl (by kernel_rfl) (of_decide_eq_true (by kernel_rfl)) ?_; intro E hG hE; subst hG; simp only [ent]
  (repeat' (first | refine awp_seq ?_ | refine awp_block ?_ | refine awp_skip ?_ | refine awp_exit ?_ | ((first | refine rR (fun K kp hK hkp => ?_) | refine iG ?_); simp (implicitDefEqProofs := false) (maxSteps := 2000000) (disch := omega) only [go_sem]; (repeat' (first | (refine hK _ ?_; clear hK hkp kp K) | (with_reducible refine And.intro ?_ ?_) | omega))) | ((first | refine aG (fun h => ?_) (fun h => ?_) | refine aD (fun h => ?_) (fun h => ?_) | refine aX (fun h => ?_) (fun h => ?_)) <;> simp only [h]) | refine awp_cond_t rfl ?_ | refine awp_cond_f rfl ?_ | ((refine awp_cond rfl (fun h => ?_) (fun h => ?_) <;> try simp only [ifs] at h) <;> (try (exfalso; omega))) | refine awp_ret ?_))
  refine awp_loop (fun k : Nat => ⟨[(5, .r (.int .i64 k)), (0, .ro t 2 (l.map eC)), (1, .r (.string n))], [], 0⟩) (fun k => k ≤ l.length ∧ idxM (isN n) (l.drop k) k = findM l n) (fun k => l.length - k) 0 ?_ ?_ ?_
  · exact ⟨by simp, by simp [findM]⟩
  · (refine emb [] ?_ ?_ rfl ?_ ?_ ?_ ?_ <;> simp [okM, okO, lk, ren, renL, renNd, by_, hE] <;> (try omega))
  intro k ⟨hk, hno⟩
  by_cases hk' : k < l.length
  · obtain ⟨x, hx⟩ : ∃ x, l[k]? = some x := ⟨l[k], by simp [hk']⟩
    rw [drop_at hx, idxM] at hno
    cases hs : (x.nm.toList == n.toList)
    · rw [if_neg (by rw [isN, hs]; decide)] at hno
      (repeat' (first | refine awp_seq ?_ | refine awp_block ?_ | refine awp_skip ?_ | refine awp_exit ?_ | ((first | refine rR (fun K kp hK hkp => ?_) | refine iG ?_); simp (implicitDefEqProofs := false) (maxSteps := 2000000) (disch := omega) only [go_sem, hx, eC, hs]; (repeat' (first | (refine hK _ ?_; clear hK hkp kp K) | (with_reducible refine And.intro ?_ ?_) | omega))) | ((first | refine aG (fun h => ?_) (fun h => ?_) | refine aD (fun h => ?_) (fun h => ?_) | refine aX (fun h => ?_) (fun h => ?_)) <;> simp only [h]) | refine awp_cond_t rfl ?_ | refine awp_cond_f rfl ?_ | ((refine awp_cond rfl (fun h => ?_) (fun h => ?_) <;> try simp only [ifs] at h) <;> (try (exfalso; omega))) | refine awp_ret ?_))
      ((first | (refine nextB (k + 1) ?_ ?_ ?_) | (refine nextA (k + 1) ?_ ?_ ?_)); rotate_left; (· (try dsimp only); (first | omega | (simp only [List.length_drop, List.length_cons, List.length_append]; omega) | (simp; done) | (simp; omega))); (· (refine emb [] ?_ ?_ rfl ?_ ?_ ?_ ?_ <;> simp [okM, okO, lk, ren, renL, renNd, by_, hE] <;> (try omega))))
      exact ⟨by omega, hno⟩
    · rw [if_pos (show isN n x = true from hs)] at hno
      (repeat' (first | refine awp_seq ?_ | refine awp_block ?_ | refine awp_skip ?_ | refine awp_exit ?_ | ((first | refine rR (fun K kp hK hkp => ?_) | refine iG ?_); simp (implicitDefEqProofs := false) (maxSteps := 2000000) (disch := omega) only [go_sem, hx, eC, hs]; (repeat' (first | (refine hK _ ?_; clear hK hkp kp K) | (with_reducible refine And.intro ?_ ?_) | omega))) | ((first | refine aG (fun h => ?_) (fun h => ?_) | refine aD (fun h => ?_) (fun h => ?_) | refine aX (fun h => ?_) (fun h => ?_)) <;> simp only [h]) | refine awp_cond_t rfl ?_ | refine awp_cond_f rfl ?_ | ((refine awp_cond rfl (fun h => ?_) (fun h => ?_) <;> try simp only [ifs] at h) <;> (try (exfalso; omega))) | refine awp_ret ?_))
      (refine retA_is (by (simp (implicitDefEqProofs := false) (maxSteps := 2000000) (disch := omega) only [go_sem, Go.Proofs.Tryz.results39]); rfl) ?_; refine eN hE ?_; simp [oneA, ren, renL])
      exact hno
  · (repeat' (first | refine awp_seq ?_ | refine awp_block ?_ | refine awp_skip ?_ | refine awp_exit ?_ | ((first | refine rR (fun K kp hK hkp => ?_) | refine iG ?_); simp (implicitDefEqProofs := false) (maxSteps := 2000000) (disch := omega) only [go_sem]; (repeat' (first | (refine hK _ ?_; clear hK hkp kp K) | (with_reducible refine And.intro ?_ ?_) | omega))) | ((first | refine aG (fun h => ?_) (fun h => ?_) | refine aD (fun h => ?_) (fun h => ?_) | refine aX (fun h => ?_) (fun h => ?_)) <;> simp only [h]) | refine awp_cond_t rfl ?_ | refine awp_cond_f rfl ?_ | ((refine awp_cond rfl (fun h => ?_) (fun h => ?_) <;> try simp only [ifs] at h) <;> (try (exfalso; omega))) | refine awp_ret ?_))
    (refine retA_is (by (simp (implicitDefEqProofs := false) (maxSteps := 2000000) (disch := omega) only [go_sem, Go.Proofs.Tryz.results39]); rfl) ?_; refine eN hE ?_; simp [oneA, ren, renL])
    rw [← hno, List.drop_of_length_le (by omega)]; rfl
end Go.AM
/- Kinds: the reference's Begins. -/
namespace Go.AM
open Go Go.RowKit
open Go.Proofs.YtoecmmpjndcolaaGreatDoor (OP nameM litM exprM exprFrom stepM popsM)
attribute [local irreducible] AWP retA
theorem works2_con (G : List (Nat × List Value)) (k : Int) : Con Go.Proofs.Tryz.prog G 40 [.r (.int .i64 k)] [] 0 (Is (.r (.int .i64 (popsM k))) [] 0) No :=
  con_of_calls (by kernel_rfl) (fun w z vs hz hr hG => by
    obtain ⟨v, r, rfl, h1, h2⟩ := hr.head
    obtain rfl := h1.r_inv
    obtain rfl := h2.of_nil
    exact (Go.Proofs.YtoecmmpjndcolaaGreatDoor.works_any k w).mono (fun e w' ⟨he, hw⟩ => by subst hw; exact ⟨he, Below.refl _ _⟩))
/-- From behind: what is still wanted, and what stands ahead. -/
theorem cnt_step {α : Type} {ar : α → Nat} {l : List α} {i n : Nat} {o : α} (h : l[i]? = some o) : cnt ar (l.take (i + 1)).reverse (n + 1) = 1 + cnt ar (l.take i).reverse (n + ar o) := by
  rw [List.take_add_one, h]; simp [cnt]
set_option maxRecDepth 100000 in
set_option maxHeartbeats 4000000 in
theorem begins_con (G : List (Nat × List Value)) (t : Bool) (l : List OP) (e : Nat) (hl : l.length ≤ 1000) (he : e ≤ l.length) (hc : ∀ (i n : Nat), i ≤ e → cnt arO (l.take e).reverse 1 = (e - i) + cnt arO (l.take i).reverse (n + 1) → 0 < i) :
    Con Go.Proofs.Tryz.prog G 42 [.ro t 5 (l.map eO), .r (.int .i64 e)] [] 0 (Is (.r (.int .i64 (begM arO l e))) [] 0) No := by
  refine con_of_awp Go.Proofs.Tryz.func42 rfl (by kernel_rfl) (of_decide_eq_true (by kernel_rfl)) ?_; intro E hG hE; subst hG; simp only [ent]
  (repeat' (first | refine awp_seq ?_ | refine awp_block ?_ | refine awp_skip ?_ | refine awp_exit ?_ | ((first | refine rR (fun K kp hK hkp => ?_) | refine iG ?_); simp (implicitDefEqProofs := false) (maxSteps := 2000000) (disch := omega) only [go_sem]; (repeat' (first | (refine hK _ ?_; clear hK hkp kp K) | (with_reducible refine And.intro ?_ ?_) | omega))) | ((first | refine aG (fun h => ?_) (fun h => ?_) | refine aD (fun h => ?_) (fun h => ?_) | refine aX (fun h => ?_) (fun h => ?_)) <;> simp only [h]) | refine awp_cond_t rfl ?_ | refine awp_cond_f rfl ?_ | ((refine awp_cond rfl (fun h => ?_) (fun h => ?_) <;> try simp only [ifs] at h) <;> (try (exfalso; omega))) | refine awp_ret ?_))
  refine awp_loop (fun q : Nat × Nat => ⟨[(6, .r (.int .i64 q.1)), (5, .r (.int .i64 q.2)), (0, .ro t 5 (l.map eO))], [], 0⟩) (fun q => q.1 ≤ e ∧ q.2 ≤ 1 + 2 * (e - q.1) ∧ cnt arO (l.take e).reverse 1 = (e - q.1) + cnt arO (l.take q.1).reverse q.2) (fun q => q.1) (e, 1) ?_ ?_ ?_
  · exact ⟨Nat.le_refl _, by simp, by simp⟩
  · (refine emb [] ?_ ?_ rfl ?_ ?_ ?_ ?_ <;> simp [okM, okO, lk, ren, renL, renNd, by_, hE] <;> (try omega))
  rintro ⟨i, n⟩ ⟨hi, hn, hno⟩
  simp only at hi hn hno ⊢
  cases n with
  | zero =>
    have hb : begM arO l e = i := by unfold begM; rw [hno]; simp [cnt]; omega
    (repeat' (first | refine awp_seq ?_ | refine awp_block ?_ | refine awp_skip ?_ | refine awp_exit ?_ | ((first | refine rR (fun K kp hK hkp => ?_) | refine iG ?_); simp (implicitDefEqProofs := false) (maxSteps := 2000000) (disch := omega) only [go_sem]; (repeat' (first | (refine hK _ ?_; clear hK hkp kp K) | (with_reducible refine And.intro ?_ ?_) | omega))) | ((first | refine aG (fun h => ?_) (fun h => ?_) | refine aD (fun h => ?_) (fun h => ?_) | refine aX (fun h => ?_) (fun h => ?_)) <;> simp only [h]) | refine awp_cond_t rfl ?_ | refine awp_cond_f rfl ?_ | ((refine awp_cond rfl (fun h => ?_) (fun h => ?_) <;> try simp only [ifs] at h) <;> (try (exfalso; omega))) | refine awp_ret ?_))
    (refine retA_is (by (simp (implicitDefEqProofs := false) (maxSteps := 2000000) (disch := omega) only [go_sem, Go.Proofs.Tryz.results42, hb]); rfl) ?_; refine eN hE ?_; simp [oneA, ren, renL, hb])
  | succ n =>
    have h0 := hc i n hi hno
    obtain ⟨j, rfl⟩ : ∃ j, i = j + 1 := ⟨i - 1, by omega⟩
    obtain ⟨o, hx⟩ : ∃ o, l[j]? = some o := ⟨l[j]'(by omega), by simp⟩
    rw [cnt_step hx] at hno
    have wc := works2_con E.G o.k
    have hpb := Go.Proofs.YtoecmmpjndcolaaGreatDoor.popsM_bd o.k
    have hpa : popsM o.k = (arO o : Nat) := by unfold arO; omega
    have e1 : ((j + 1 : Nat) : Int) - 1 = (j : Nat) := by omega
    have e2 : ((n + 1 : Nat) : Int) - 1 = (n : Nat) := by omega
    have e3 : (n : Int) + (arO o : Nat) = (n + arO o : Nat) := by omega
    (repeat' (first | refine awp_seq ?_ | refine awp_block ?_ | refine awp_skip ?_ | refine awp_exit ?_ | ((first | refine rR (fun K kp hK hkp => ?_) | refine cR wc ?_ | refine iG ?_); simp (implicitDefEqProofs := false) (maxSteps := 2000000) (disch := omega) only [go_sem, hx, eO, e1, e2, hpa, Int.toNat_natCast, Int.natCast_nonneg]; (repeat' (first | (refine hK _ ?_; clear hK hkp kp K) | (with_reducible refine And.intro ?_ ?_) | omega))) | ((first | refine aG (fun h => ?_) (fun h => ?_) | refine aD (fun h => ?_) (fun h => ?_) | refine aX (fun h => ?_) (fun h => ?_)) <;> simp only [h]) | refine awp_cond_t rfl ?_ | refine awp_cond_f rfl ?_ | ((refine awp_cond rfl (fun h => ?_) (fun h => ?_) <;> try simp only [ifs] at h) <;> (try (exfalso; omega))) | refine awp_ret ?_))
    ((first | (refine nextB ((j, n + arO o)) ?_ ?_ ?_) | (refine nextA ((j, n + arO o)) ?_ ?_ ?_)); rotate_left; (· (try dsimp only); (first | omega | (simp only [List.length_drop, List.length_cons, List.length_append]; omega) | (simp; done) | (simp; omega))); (· (refine emb [] ?_ ?_ rfl ?_ ?_ ?_ ?_ <;> simp [okM, okO, lk, ren, renL, renNd, by_, hE] <;> (try omega))))
    refine ⟨by omega, by dsimp only; omega, by dsimp only; omega⟩
end Go.AM
/- Kinds: what an op makes of kinds: expr.made. -/
namespace Go.AM
open Go Go.RowKit
open Go.Proofs.YtoecmmpjndcolaaGreatDoor (OP nameM litM exprM exprFrom stepM popsM)
attribute [local irreducible] AWP retA
def isK (k want : Int) : Bool := k == want || k == 0
set_option maxRecDepth 100000 in
theorem made1_con (G : List (Nat × List Value)) (k want : Int) : Con Go.Proofs.Tryz.prog G 82 [.r (.int .i64 k), .r (.int .i64 want)] [] 0 (Is (.r (.bool (isK k want))) [] 0) No := by
  refine con_of_awp Go.Proofs.Tryz.func82 rfl (by kernel_rfl) (of_decide_eq_true (by kernel_rfl)) ?_; intro E hG hE; subst hG; simp only [ent]
  cases h : (k == want)
  · (repeat' (first | refine awp_seq ?_ | refine awp_block ?_ | refine awp_skip ?_ | refine awp_exit ?_ | ((first | refine rR (fun K kp hK hkp => ?_) | refine iG ?_); simp (implicitDefEqProofs := false) (maxSteps := 2000000) (disch := omega) only [go_sem, h]; (repeat' (first | (refine hK _ ?_; clear hK hkp kp K) | (with_reducible refine And.intro ?_ ?_) | omega))) | ((first | refine aG (fun h => ?_) (fun h => ?_) | refine aD (fun h => ?_) (fun h => ?_) | refine aX (fun h => ?_) (fun h => ?_)) <;> simp only [h]) | refine awp_cond_t rfl ?_ | refine awp_cond_f rfl ?_ | ((refine awp_cond rfl (fun h => ?_) (fun h => ?_) <;> try simp only [ifs] at h) <;> (try (exfalso; omega))) | refine awp_ret ?_))
    (refine retA_is (by (simp (implicitDefEqProofs := false) (maxSteps := 2000000) (disch := omega) only [go_sem, Go.Proofs.Tryz.results82, isK, h]); rfl) ?_; refine eN hE ?_; simp [oneA, ren, renL, isK, h])
  · (repeat' (first | refine awp_seq ?_ | refine awp_block ?_ | refine awp_skip ?_ | refine awp_exit ?_ | ((first | refine rR (fun K kp hK hkp => ?_) | refine iG ?_); simp (implicitDefEqProofs := false) (maxSteps := 2000000) (disch := omega) only [go_sem, h]; (repeat' (first | (refine hK _ ?_; clear hK hkp kp K) | (with_reducible refine And.intro ?_ ?_) | omega))) | ((first | refine aG (fun h => ?_) (fun h => ?_) | refine aD (fun h => ?_) (fun h => ?_) | refine aX (fun h => ?_) (fun h => ?_)) <;> simp only [h]) | refine awp_cond_t rfl ?_ | refine awp_cond_f rfl ?_ | ((refine awp_cond rfl (fun h => ?_) (fun h => ?_) <;> try simp only [ifs] at h) <;> (try (exfalso; omega))) | refine awp_ret ?_))
    (refine retA_is (by (simp (implicitDefEqProofs := false) (maxSteps := 2000000) (disch := omega) only [go_sem, Go.Proofs.Tryz.results82, isK, h]); rfl) ?_; refine eN hE ?_; simp [oneA, ren, renL, isK, h])
/-- What an op makes of kinds. -/
def madeM (l : List CO) (o : OP) (a b : Int) : Except Int Int :=
  if o.k = 1 then .ok o.vk
  else if o.k = 2 then (if findM l o.nm < 0 then .error 8 else match l[(findM l o.nm).toNat]? with
    | some c => .ok c.k
    | none => .error 8)
  else if o.k = 3 ∨ o.k = 4 then (if (isK a 1 && isK b 1) = true then .ok 1 else .error 4)
  else if o.k = 5 then (if isK a 1 = true then .ok 1 else .error 4)
  else if o.k = 6 ∨ o.k = 7 then (if (isK a b || b == 0) = true then .ok 1 else .error 4)
  else if o.k = 8 ∨ o.k = 9 ∨ o.k = 10 then (if (isK a 2 && isK b 2) = true then .ok 2 else .error 4)
  else .ok 1
def madeA : Except Int Int → AV
  | .ok k => .tup [.r (.int .i64 k), .r (.int .i64 0)]
  | .error e => .tup [.r (.int .i64 0), .r (.int .i64 e)]
theorem findM_lt (l : List CO) (n : ByteArray) (h : ¬ findM l n < 0) : ∃ c, l[(findM l n).toNat]? = some c := by
  have key : ∀ (r : List CO) (k : Nat), ¬ idxM (isN n) r k < 0 → ∃ j, j < r.length ∧ idxM (isN n) r k = ((k + j : Nat) : Int) := by
    intro r
    induction r with
    | nil => intro k h; simp [idxM] at h
    | cons x r ih =>
      intro k h
      unfold idxM at h ⊢
      by_cases e : isN n x = true
      · exact ⟨0, by simp, by rw [if_pos e]; rfl⟩
      · rw [if_neg e] at h ⊢
        obtain ⟨j, h1, h2⟩ := ih (k + 1) h
        exact ⟨j + 1, by simp; omega, by rw [h2]; congr 1; omega⟩
  obtain ⟨j, h1, h2⟩ := key l 0 h
  have : (findM l n).toNat = j := by rw [findM, h2]; omega
  exact ⟨l[j], by rw [this]; simp [h1]⟩
set_option maxRecDepth 100000 in
set_option maxHeartbeats 8000000 in
theorem made_con (G : List (Nat × List Value)) (t : Bool) (l : List CO) (o : OP) (a b : Int) (hl : l.length ≤ 1048576) (h1 : 1 ≤ o.k) (h11 : o.k ≤ 11) : Con Go.Proofs.Tryz.prog G 57 [.agg (eO o), .ro t 2 (l.map eC), .r (.int .i64 a), .r (.int .i64 b)] [] 0 (Is (madeA (madeM l o a b)) [] 0) No := by
  refine con_of_awp Go.Proofs.Tryz.func57 rfl (by kernel_rfl) (of_decide_eq_true (by kernel_rfl)) ?_; intro E hG hE; subst hG; simp only [ent]
  obtain h | h | h | h | h | h | h | h | h | h | h : o.k = 1 ∨ o.k = 2 ∨ o.k = 3 ∨ o.k = 4 ∨ o.k = 5 ∨ o.k = 6 ∨ o.k = 7 ∨ o.k = 8 ∨ o.k = 9 ∨ o.k = 10 ∨ o.k = 11 := by omega
  · (repeat' (first | refine awp_seq ?_ | refine awp_block ?_ | refine awp_skip ?_ | refine awp_exit ?_ | ((first | refine rR (fun K kp hK hkp => ?_) | refine iG ?_); simp (implicitDefEqProofs := false) (maxSteps := 2000000) (disch := omega) only [go_sem, eO, h]; (repeat' (first | (refine hK _ ?_; clear hK hkp kp K) | (with_reducible refine And.intro ?_ ?_) | omega))) | ((first | refine aG (fun h => ?_) (fun h => ?_) | refine aD (fun h => ?_) (fun h => ?_) | refine aX (fun h => ?_) (fun h => ?_)) <;> simp only [h]) | refine awp_cond_t rfl ?_ | refine awp_cond_f rfl ?_ | ((refine awp_cond rfl (fun h => ?_) (fun h => ?_) <;> try simp only [ifs] at h) <;> (try (exfalso; omega))) | refine awp_ret ?_))
    (refine retA_is (by (simp (implicitDefEqProofs := false) (maxSteps := 2000000) (disch := omega) only [go_sem, Go.Proofs.Tryz.results57, madeM, h, madeA]); rfl) ?_; refine eN hE ?_; simp [oneA, ren, renL, madeM, h, madeA])
  · have fc := find_con E.G t l o.nm hl
    by_cases hf : findM l o.nm < 0
    · have d1 : decide (findM l o.nm < 0) = true := decide_eq_true hf
      (repeat' (first | refine awp_seq ?_ | refine awp_block ?_ | refine awp_skip ?_ | refine awp_exit ?_ | ((first | refine rR (fun K kp hK hkp => ?_) | refine cR fc ?_ | refine iG ?_); simp (implicitDefEqProofs := false) (maxSteps := 2000000) (disch := omega) only [go_sem, eO, h, d1]; (repeat' (first | (refine hK _ ?_; clear hK hkp kp K) | (with_reducible refine And.intro ?_ ?_) | omega))) | ((first | refine aG (fun h => ?_) (fun h => ?_) | refine aD (fun h => ?_) (fun h => ?_) | refine aX (fun h => ?_) (fun h => ?_)) <;> simp only [h]) | refine awp_cond_t rfl ?_ | refine awp_cond_f rfl ?_ | ((refine awp_cond rfl (fun h => ?_) (fun h => ?_) <;> try simp only [ifs] at h) <;> (try (exfalso; omega))) | refine awp_ret ?_))
      (refine retA_is (by (simp (implicitDefEqProofs := false) (maxSteps := 2000000) (disch := omega) only [go_sem, Go.Proofs.Tryz.results57, madeM, h, hf, madeA]); rfl) ?_; refine eN hE ?_; simp [oneA, ren, renL, madeM, h, hf, madeA])
    · have d1 : decide (findM l o.nm < 0) = false := decide_eq_false hf
      obtain ⟨c, hc⟩ := findM_lt l o.nm hf
      have hg : (0 ≤ findM l o.nm) = True := eq_true (by omega)
      (repeat' (first | refine awp_seq ?_ | refine awp_block ?_ | refine awp_skip ?_ | refine awp_exit ?_ | ((first | refine rR (fun K kp hK hkp => ?_) | refine cR fc ?_ | refine iG ?_); simp (implicitDefEqProofs := false) (maxSteps := 2000000) (disch := omega) only [go_sem, eO, h, d1, hc, hg, eC]; (repeat' (first | (refine hK _ ?_; clear hK hkp kp K) | (with_reducible refine And.intro ?_ ?_) | omega))) | ((first | refine aG (fun h => ?_) (fun h => ?_) | refine aD (fun h => ?_) (fun h => ?_) | refine aX (fun h => ?_) (fun h => ?_)) <;> simp only [h]) | refine awp_cond_t rfl ?_ | refine awp_cond_f rfl ?_ | ((refine awp_cond rfl (fun h => ?_) (fun h => ?_) <;> try simp only [ifs] at h) <;> (try (exfalso; omega))) | refine awp_ret ?_))
      (refine retA_is (by (simp (implicitDefEqProofs := false) (maxSteps := 2000000) (disch := omega) only [go_sem, Go.Proofs.Tryz.results57, madeM, h, hf, hc, madeA]); rfl) ?_; refine eN hE ?_; simp [oneA, ren, renL, madeM, h, hf, hc, madeA])
  · have ma := made1_con E.G a 1
    have mb := made1_con E.G b 1
    cases ha : isK a 1
    · rw [ha] at ma
      (repeat' (first | refine awp_seq ?_ | refine awp_block ?_ | refine awp_skip ?_ | refine awp_exit ?_ | ((first | refine rR (fun K kp hK hkp => ?_) | refine cR ma ?_ | refine iG ?_); simp (implicitDefEqProofs := false) (maxSteps := 2000000) (disch := omega) only [go_sem, eO, h]; (repeat' (first | (refine hK _ ?_; clear hK hkp kp K) | (with_reducible refine And.intro ?_ ?_) | omega))) | ((first | refine aG (fun h => ?_) (fun h => ?_) | refine aD (fun h => ?_) (fun h => ?_) | refine aX (fun h => ?_) (fun h => ?_)) <;> simp only [h]) | refine awp_cond_t rfl ?_ | refine awp_cond_f rfl ?_ | ((refine awp_cond rfl (fun h => ?_) (fun h => ?_) <;> try simp only [ifs] at h) <;> (try (exfalso; omega))) | refine awp_ret ?_))
      (refine retA_is (by (simp (implicitDefEqProofs := false) (maxSteps := 2000000) (disch := omega) only [go_sem, Go.Proofs.Tryz.results57, madeM, h, ha, madeA]); rfl) ?_; refine eN hE ?_; simp [oneA, ren, renL, madeM, h, ha, madeA])
    · rw [ha] at ma
      cases hb : isK b 1
      · rw [hb] at mb
        (repeat' (first | refine awp_seq ?_ | refine awp_block ?_ | refine awp_skip ?_ | refine awp_exit ?_ | ((first | refine rR (fun K kp hK hkp => ?_) | refine cR ma ?_ | refine cR mb ?_ | refine iG ?_); simp (implicitDefEqProofs := false) (maxSteps := 2000000) (disch := omega) only [go_sem, eO, h]; (repeat' (first | (refine hK _ ?_; clear hK hkp kp K) | (with_reducible refine And.intro ?_ ?_) | omega))) | ((first | refine aG (fun h => ?_) (fun h => ?_) | refine aD (fun h => ?_) (fun h => ?_) | refine aX (fun h => ?_) (fun h => ?_)) <;> simp only [h]) | refine awp_cond_t rfl ?_ | refine awp_cond_f rfl ?_ | ((refine awp_cond rfl (fun h => ?_) (fun h => ?_) <;> try simp only [ifs] at h) <;> (try (exfalso; omega))) | refine awp_ret ?_))
        (refine retA_is (by (simp (implicitDefEqProofs := false) (maxSteps := 2000000) (disch := omega) only [go_sem, Go.Proofs.Tryz.results57, madeM, h, ha, hb, madeA]); rfl) ?_; refine eN hE ?_; simp [oneA, ren, renL, madeM, h, ha, hb, madeA])
      · rw [hb] at mb
        (repeat' (first | refine awp_seq ?_ | refine awp_block ?_ | refine awp_skip ?_ | refine awp_exit ?_ | ((first | refine rR (fun K kp hK hkp => ?_) | refine cR ma ?_ | refine cR mb ?_ | refine iG ?_); simp (implicitDefEqProofs := false) (maxSteps := 2000000) (disch := omega) only [go_sem, eO, h]; (repeat' (first | (refine hK _ ?_; clear hK hkp kp K) | (with_reducible refine And.intro ?_ ?_) | omega))) | ((first | refine aG (fun h => ?_) (fun h => ?_) | refine aD (fun h => ?_) (fun h => ?_) | refine aX (fun h => ?_) (fun h => ?_)) <;> simp only [h]) | refine awp_cond_t rfl ?_ | refine awp_cond_f rfl ?_ | ((refine awp_cond rfl (fun h => ?_) (fun h => ?_) <;> try simp only [ifs] at h) <;> (try (exfalso; omega))) | refine awp_ret ?_))
        (refine retA_is (by (simp (implicitDefEqProofs := false) (maxSteps := 2000000) (disch := omega) only [go_sem, Go.Proofs.Tryz.results57, madeM, h, ha, hb, madeA]); rfl) ?_; refine eN hE ?_; simp [oneA, ren, renL, madeM, h, ha, hb, madeA])
  · have ma := made1_con E.G a 1
    have mb := made1_con E.G b 1
    cases ha : isK a 1
    · rw [ha] at ma
      (repeat' (first | refine awp_seq ?_ | refine awp_block ?_ | refine awp_skip ?_ | refine awp_exit ?_ | ((first | refine rR (fun K kp hK hkp => ?_) | refine cR ma ?_ | refine iG ?_); simp (implicitDefEqProofs := false) (maxSteps := 2000000) (disch := omega) only [go_sem, eO, h]; (repeat' (first | (refine hK _ ?_; clear hK hkp kp K) | (with_reducible refine And.intro ?_ ?_) | omega))) | ((first | refine aG (fun h => ?_) (fun h => ?_) | refine aD (fun h => ?_) (fun h => ?_) | refine aX (fun h => ?_) (fun h => ?_)) <;> simp only [h]) | refine awp_cond_t rfl ?_ | refine awp_cond_f rfl ?_ | ((refine awp_cond rfl (fun h => ?_) (fun h => ?_) <;> try simp only [ifs] at h) <;> (try (exfalso; omega))) | refine awp_ret ?_))
      (refine retA_is (by (simp (implicitDefEqProofs := false) (maxSteps := 2000000) (disch := omega) only [go_sem, Go.Proofs.Tryz.results57, madeM, h, ha, madeA]); rfl) ?_; refine eN hE ?_; simp [oneA, ren, renL, madeM, h, ha, madeA])
    · rw [ha] at ma
      cases hb : isK b 1
      · rw [hb] at mb
        (repeat' (first | refine awp_seq ?_ | refine awp_block ?_ | refine awp_skip ?_ | refine awp_exit ?_ | ((first | refine rR (fun K kp hK hkp => ?_) | refine cR ma ?_ | refine cR mb ?_ | refine iG ?_); simp (implicitDefEqProofs := false) (maxSteps := 2000000) (disch := omega) only [go_sem, eO, h]; (repeat' (first | (refine hK _ ?_; clear hK hkp kp K) | (with_reducible refine And.intro ?_ ?_) | omega))) | ((first | refine aG (fun h => ?_) (fun h => ?_) | refine aD (fun h => ?_) (fun h => ?_) | refine aX (fun h => ?_) (fun h => ?_)) <;> simp only [h]) | refine awp_cond_t rfl ?_ | refine awp_cond_f rfl ?_ | ((refine awp_cond rfl (fun h => ?_) (fun h => ?_) <;> try simp only [ifs] at h) <;> (try (exfalso; omega))) | refine awp_ret ?_))
        (refine retA_is (by (simp (implicitDefEqProofs := false) (maxSteps := 2000000) (disch := omega) only [go_sem, Go.Proofs.Tryz.results57, madeM, h, ha, hb, madeA]); rfl) ?_; refine eN hE ?_; simp [oneA, ren, renL, madeM, h, ha, hb, madeA])
      · rw [hb] at mb
        (repeat' (first | refine awp_seq ?_ | refine awp_block ?_ | refine awp_skip ?_ | refine awp_exit ?_ | ((first | refine rR (fun K kp hK hkp => ?_) | refine cR ma ?_ | refine cR mb ?_ | refine iG ?_); simp (implicitDefEqProofs := false) (maxSteps := 2000000) (disch := omega) only [go_sem, eO, h]; (repeat' (first | (refine hK _ ?_; clear hK hkp kp K) | (with_reducible refine And.intro ?_ ?_) | omega))) | ((first | refine aG (fun h => ?_) (fun h => ?_) | refine aD (fun h => ?_) (fun h => ?_) | refine aX (fun h => ?_) (fun h => ?_)) <;> simp only [h]) | refine awp_cond_t rfl ?_ | refine awp_cond_f rfl ?_ | ((refine awp_cond rfl (fun h => ?_) (fun h => ?_) <;> try simp only [ifs] at h) <;> (try (exfalso; omega))) | refine awp_ret ?_))
        (refine retA_is (by (simp (implicitDefEqProofs := false) (maxSteps := 2000000) (disch := omega) only [go_sem, Go.Proofs.Tryz.results57, madeM, h, ha, hb, madeA]); rfl) ?_; refine eN hE ?_; simp [oneA, ren, renL, madeM, h, ha, hb, madeA])
  · have ma := made1_con E.G a 1
    cases ha : isK a 1
    · rw [ha] at ma
      (repeat' (first | refine awp_seq ?_ | refine awp_block ?_ | refine awp_skip ?_ | refine awp_exit ?_ | ((first | refine rR (fun K kp hK hkp => ?_) | refine cR ma ?_ | refine iG ?_); simp (implicitDefEqProofs := false) (maxSteps := 2000000) (disch := omega) only [go_sem, eO, h]; (repeat' (first | (refine hK _ ?_; clear hK hkp kp K) | (with_reducible refine And.intro ?_ ?_) | omega))) | ((first | refine aG (fun h => ?_) (fun h => ?_) | refine aD (fun h => ?_) (fun h => ?_) | refine aX (fun h => ?_) (fun h => ?_)) <;> simp only [h]) | refine awp_cond_t rfl ?_ | refine awp_cond_f rfl ?_ | ((refine awp_cond rfl (fun h => ?_) (fun h => ?_) <;> try simp only [ifs] at h) <;> (try (exfalso; omega))) | refine awp_ret ?_))
      (refine retA_is (by (simp (implicitDefEqProofs := false) (maxSteps := 2000000) (disch := omega) only [go_sem, Go.Proofs.Tryz.results57, madeM, h, ha, madeA]); rfl) ?_; refine eN hE ?_; simp [oneA, ren, renL, madeM, h, ha, madeA])
    · rw [ha] at ma
      (repeat' (first | refine awp_seq ?_ | refine awp_block ?_ | refine awp_skip ?_ | refine awp_exit ?_ | ((first | refine rR (fun K kp hK hkp => ?_) | refine cR ma ?_ | refine iG ?_); simp (implicitDefEqProofs := false) (maxSteps := 2000000) (disch := omega) only [go_sem, eO, h]; (repeat' (first | (refine hK _ ?_; clear hK hkp kp K) | (with_reducible refine And.intro ?_ ?_) | omega))) | ((first | refine aG (fun h => ?_) (fun h => ?_) | refine aD (fun h => ?_) (fun h => ?_) | refine aX (fun h => ?_) (fun h => ?_)) <;> simp only [h]) | refine awp_cond_t rfl ?_ | refine awp_cond_f rfl ?_ | ((refine awp_cond rfl (fun h => ?_) (fun h => ?_) <;> try simp only [ifs] at h) <;> (try (exfalso; omega))) | refine awp_ret ?_))
      (refine retA_is (by (simp (implicitDefEqProofs := false) (maxSteps := 2000000) (disch := omega) only [go_sem, Go.Proofs.Tryz.results57, madeM, h, ha, madeA]); rfl) ?_; refine eN hE ?_; simp [oneA, ren, renL, madeM, h, ha, madeA])
  · have ma := made1_con E.G a b
    cases ha : isK a b
    · rw [ha] at ma
      cases hb : (b == 0)
      · (repeat' (first | refine awp_seq ?_ | refine awp_block ?_ | refine awp_skip ?_ | refine awp_exit ?_ | ((first | refine rR (fun K kp hK hkp => ?_) | refine cR ma ?_ | refine iG ?_); simp (implicitDefEqProofs := false) (maxSteps := 2000000) (disch := omega) only [go_sem, eO, h, hb]; (repeat' (first | (refine hK _ ?_; clear hK hkp kp K) | (with_reducible refine And.intro ?_ ?_) | omega))) | ((first | refine aG (fun h => ?_) (fun h => ?_) | refine aD (fun h => ?_) (fun h => ?_) | refine aX (fun h => ?_) (fun h => ?_)) <;> simp only [h]) | refine awp_cond_t rfl ?_ | refine awp_cond_f rfl ?_ | ((refine awp_cond rfl (fun h => ?_) (fun h => ?_) <;> try simp only [ifs] at h) <;> (try (exfalso; omega))) | refine awp_ret ?_))
        (refine retA_is (by (simp (implicitDefEqProofs := false) (maxSteps := 2000000) (disch := omega) only [go_sem, Go.Proofs.Tryz.results57, madeM, h, ha, hb, madeA]); rfl) ?_; refine eN hE ?_; simp [oneA, ren, renL, madeM, h, ha, hb, madeA])
      · (repeat' (first | refine awp_seq ?_ | refine awp_block ?_ | refine awp_skip ?_ | refine awp_exit ?_ | ((first | refine rR (fun K kp hK hkp => ?_) | refine cR ma ?_ | refine iG ?_); simp (implicitDefEqProofs := false) (maxSteps := 2000000) (disch := omega) only [go_sem, eO, h, hb]; (repeat' (first | (refine hK _ ?_; clear hK hkp kp K) | (with_reducible refine And.intro ?_ ?_) | omega))) | ((first | refine aG (fun h => ?_) (fun h => ?_) | refine aD (fun h => ?_) (fun h => ?_) | refine aX (fun h => ?_) (fun h => ?_)) <;> simp only [h]) | refine awp_cond_t rfl ?_ | refine awp_cond_f rfl ?_ | ((refine awp_cond rfl (fun h => ?_) (fun h => ?_) <;> try simp only [ifs] at h) <;> (try (exfalso; omega))) | refine awp_ret ?_))
        (refine retA_is (by (simp (implicitDefEqProofs := false) (maxSteps := 2000000) (disch := omega) only [go_sem, Go.Proofs.Tryz.results57, madeM, h, ha, hb, madeA]); rfl) ?_; refine eN hE ?_; simp [oneA, ren, renL, madeM, h, ha, hb, madeA])
    · rw [ha] at ma
      (repeat' (first | refine awp_seq ?_ | refine awp_block ?_ | refine awp_skip ?_ | refine awp_exit ?_ | ((first | refine rR (fun K kp hK hkp => ?_) | refine cR ma ?_ | refine iG ?_); simp (implicitDefEqProofs := false) (maxSteps := 2000000) (disch := omega) only [go_sem, eO, h]; (repeat' (first | (refine hK _ ?_; clear hK hkp kp K) | (with_reducible refine And.intro ?_ ?_) | omega))) | ((first | refine aG (fun h => ?_) (fun h => ?_) | refine aD (fun h => ?_) (fun h => ?_) | refine aX (fun h => ?_) (fun h => ?_)) <;> simp only [h]) | refine awp_cond_t rfl ?_ | refine awp_cond_f rfl ?_ | ((refine awp_cond rfl (fun h => ?_) (fun h => ?_) <;> try simp only [ifs] at h) <;> (try (exfalso; omega))) | refine awp_ret ?_))
      (refine retA_is (by (simp (implicitDefEqProofs := false) (maxSteps := 2000000) (disch := omega) only [go_sem, Go.Proofs.Tryz.results57, madeM, h, ha, madeA]); rfl) ?_; refine eN hE ?_; simp [oneA, ren, renL, madeM, h, ha, madeA])
  · have ma := made1_con E.G a b
    cases ha : isK a b
    · rw [ha] at ma
      cases hb : (b == 0)
      · (repeat' (first | refine awp_seq ?_ | refine awp_block ?_ | refine awp_skip ?_ | refine awp_exit ?_ | ((first | refine rR (fun K kp hK hkp => ?_) | refine cR ma ?_ | refine iG ?_); simp (implicitDefEqProofs := false) (maxSteps := 2000000) (disch := omega) only [go_sem, eO, h, hb]; (repeat' (first | (refine hK _ ?_; clear hK hkp kp K) | (with_reducible refine And.intro ?_ ?_) | omega))) | ((first | refine aG (fun h => ?_) (fun h => ?_) | refine aD (fun h => ?_) (fun h => ?_) | refine aX (fun h => ?_) (fun h => ?_)) <;> simp only [h]) | refine awp_cond_t rfl ?_ | refine awp_cond_f rfl ?_ | ((refine awp_cond rfl (fun h => ?_) (fun h => ?_) <;> try simp only [ifs] at h) <;> (try (exfalso; omega))) | refine awp_ret ?_))
        (refine retA_is (by (simp (implicitDefEqProofs := false) (maxSteps := 2000000) (disch := omega) only [go_sem, Go.Proofs.Tryz.results57, madeM, h, ha, hb, madeA]); rfl) ?_; refine eN hE ?_; simp [oneA, ren, renL, madeM, h, ha, hb, madeA])
      · (repeat' (first | refine awp_seq ?_ | refine awp_block ?_ | refine awp_skip ?_ | refine awp_exit ?_ | ((first | refine rR (fun K kp hK hkp => ?_) | refine cR ma ?_ | refine iG ?_); simp (implicitDefEqProofs := false) (maxSteps := 2000000) (disch := omega) only [go_sem, eO, h, hb]; (repeat' (first | (refine hK _ ?_; clear hK hkp kp K) | (with_reducible refine And.intro ?_ ?_) | omega))) | ((first | refine aG (fun h => ?_) (fun h => ?_) | refine aD (fun h => ?_) (fun h => ?_) | refine aX (fun h => ?_) (fun h => ?_)) <;> simp only [h]) | refine awp_cond_t rfl ?_ | refine awp_cond_f rfl ?_ | ((refine awp_cond rfl (fun h => ?_) (fun h => ?_) <;> try simp only [ifs] at h) <;> (try (exfalso; omega))) | refine awp_ret ?_))
        (refine retA_is (by (simp (implicitDefEqProofs := false) (maxSteps := 2000000) (disch := omega) only [go_sem, Go.Proofs.Tryz.results57, madeM, h, ha, hb, madeA]); rfl) ?_; refine eN hE ?_; simp [oneA, ren, renL, madeM, h, ha, hb, madeA])
    · rw [ha] at ma
      (repeat' (first | refine awp_seq ?_ | refine awp_block ?_ | refine awp_skip ?_ | refine awp_exit ?_ | ((first | refine rR (fun K kp hK hkp => ?_) | refine cR ma ?_ | refine iG ?_); simp (implicitDefEqProofs := false) (maxSteps := 2000000) (disch := omega) only [go_sem, eO, h]; (repeat' (first | (refine hK _ ?_; clear hK hkp kp K) | (with_reducible refine And.intro ?_ ?_) | omega))) | ((first | refine aG (fun h => ?_) (fun h => ?_) | refine aD (fun h => ?_) (fun h => ?_) | refine aX (fun h => ?_) (fun h => ?_)) <;> simp only [h]) | refine awp_cond_t rfl ?_ | refine awp_cond_f rfl ?_ | ((refine awp_cond rfl (fun h => ?_) (fun h => ?_) <;> try simp only [ifs] at h) <;> (try (exfalso; omega))) | refine awp_ret ?_))
      (refine retA_is (by (simp (implicitDefEqProofs := false) (maxSteps := 2000000) (disch := omega) only [go_sem, Go.Proofs.Tryz.results57, madeM, h, ha, madeA]); rfl) ?_; refine eN hE ?_; simp [oneA, ren, renL, madeM, h, ha, madeA])
  · have ma := made1_con E.G a 2
    have mb := made1_con E.G b 2
    cases ha : isK a 2
    · rw [ha] at ma
      (repeat' (first | refine awp_seq ?_ | refine awp_block ?_ | refine awp_skip ?_ | refine awp_exit ?_ | ((first | refine rR (fun K kp hK hkp => ?_) | refine cR ma ?_ | refine iG ?_); simp (implicitDefEqProofs := false) (maxSteps := 2000000) (disch := omega) only [go_sem, eO, h]; (repeat' (first | (refine hK _ ?_; clear hK hkp kp K) | (with_reducible refine And.intro ?_ ?_) | omega))) | ((first | refine aG (fun h => ?_) (fun h => ?_) | refine aD (fun h => ?_) (fun h => ?_) | refine aX (fun h => ?_) (fun h => ?_)) <;> simp only [h]) | refine awp_cond_t rfl ?_ | refine awp_cond_f rfl ?_ | ((refine awp_cond rfl (fun h => ?_) (fun h => ?_) <;> try simp only [ifs] at h) <;> (try (exfalso; omega))) | refine awp_ret ?_))
      (refine retA_is (by (simp (implicitDefEqProofs := false) (maxSteps := 2000000) (disch := omega) only [go_sem, Go.Proofs.Tryz.results57, madeM, h, ha, madeA]); rfl) ?_; refine eN hE ?_; simp [oneA, ren, renL, madeM, h, ha, madeA])
    · rw [ha] at ma
      cases hb : isK b 2
      · rw [hb] at mb
        (repeat' (first | refine awp_seq ?_ | refine awp_block ?_ | refine awp_skip ?_ | refine awp_exit ?_ | ((first | refine rR (fun K kp hK hkp => ?_) | refine cR ma ?_ | refine cR mb ?_ | refine iG ?_); simp (implicitDefEqProofs := false) (maxSteps := 2000000) (disch := omega) only [go_sem, eO, h]; (repeat' (first | (refine hK _ ?_; clear hK hkp kp K) | (with_reducible refine And.intro ?_ ?_) | omega))) | ((first | refine aG (fun h => ?_) (fun h => ?_) | refine aD (fun h => ?_) (fun h => ?_) | refine aX (fun h => ?_) (fun h => ?_)) <;> simp only [h]) | refine awp_cond_t rfl ?_ | refine awp_cond_f rfl ?_ | ((refine awp_cond rfl (fun h => ?_) (fun h => ?_) <;> try simp only [ifs] at h) <;> (try (exfalso; omega))) | refine awp_ret ?_))
        (refine retA_is (by (simp (implicitDefEqProofs := false) (maxSteps := 2000000) (disch := omega) only [go_sem, Go.Proofs.Tryz.results57, madeM, h, ha, hb, madeA]); rfl) ?_; refine eN hE ?_; simp [oneA, ren, renL, madeM, h, ha, hb, madeA])
      · rw [hb] at mb
        (repeat' (first | refine awp_seq ?_ | refine awp_block ?_ | refine awp_skip ?_ | refine awp_exit ?_ | ((first | refine rR (fun K kp hK hkp => ?_) | refine cR ma ?_ | refine cR mb ?_ | refine iG ?_); simp (implicitDefEqProofs := false) (maxSteps := 2000000) (disch := omega) only [go_sem, eO, h]; (repeat' (first | (refine hK _ ?_; clear hK hkp kp K) | (with_reducible refine And.intro ?_ ?_) | omega))) | ((first | refine aG (fun h => ?_) (fun h => ?_) | refine aD (fun h => ?_) (fun h => ?_) | refine aX (fun h => ?_) (fun h => ?_)) <;> simp only [h]) | refine awp_cond_t rfl ?_ | refine awp_cond_f rfl ?_ | ((refine awp_cond rfl (fun h => ?_) (fun h => ?_) <;> try simp only [ifs] at h) <;> (try (exfalso; omega))) | refine awp_ret ?_))
        (refine retA_is (by (simp (implicitDefEqProofs := false) (maxSteps := 2000000) (disch := omega) only [go_sem, Go.Proofs.Tryz.results57, madeM, h, ha, hb, madeA]); rfl) ?_; refine eN hE ?_; simp [oneA, ren, renL, madeM, h, ha, hb, madeA])
  · have ma := made1_con E.G a 2
    have mb := made1_con E.G b 2
    cases ha : isK a 2
    · rw [ha] at ma
      (repeat' (first | refine awp_seq ?_ | refine awp_block ?_ | refine awp_skip ?_ | refine awp_exit ?_ | ((first | refine rR (fun K kp hK hkp => ?_) | refine cR ma ?_ | refine iG ?_); simp (implicitDefEqProofs := false) (maxSteps := 2000000) (disch := omega) only [go_sem, eO, h]; (repeat' (first | (refine hK _ ?_; clear hK hkp kp K) | (with_reducible refine And.intro ?_ ?_) | omega))) | ((first | refine aG (fun h => ?_) (fun h => ?_) | refine aD (fun h => ?_) (fun h => ?_) | refine aX (fun h => ?_) (fun h => ?_)) <;> simp only [h]) | refine awp_cond_t rfl ?_ | refine awp_cond_f rfl ?_ | ((refine awp_cond rfl (fun h => ?_) (fun h => ?_) <;> try simp only [ifs] at h) <;> (try (exfalso; omega))) | refine awp_ret ?_))
      (refine retA_is (by (simp (implicitDefEqProofs := false) (maxSteps := 2000000) (disch := omega) only [go_sem, Go.Proofs.Tryz.results57, madeM, h, ha, madeA]); rfl) ?_; refine eN hE ?_; simp [oneA, ren, renL, madeM, h, ha, madeA])
    · rw [ha] at ma
      cases hb : isK b 2
      · rw [hb] at mb
        (repeat' (first | refine awp_seq ?_ | refine awp_block ?_ | refine awp_skip ?_ | refine awp_exit ?_ | ((first | refine rR (fun K kp hK hkp => ?_) | refine cR ma ?_ | refine cR mb ?_ | refine iG ?_); simp (implicitDefEqProofs := false) (maxSteps := 2000000) (disch := omega) only [go_sem, eO, h]; (repeat' (first | (refine hK _ ?_; clear hK hkp kp K) | (with_reducible refine And.intro ?_ ?_) | omega))) | ((first | refine aG (fun h => ?_) (fun h => ?_) | refine aD (fun h => ?_) (fun h => ?_) | refine aX (fun h => ?_) (fun h => ?_)) <;> simp only [h]) | refine awp_cond_t rfl ?_ | refine awp_cond_f rfl ?_ | ((refine awp_cond rfl (fun h => ?_) (fun h => ?_) <;> try simp only [ifs] at h) <;> (try (exfalso; omega))) | refine awp_ret ?_))
        (refine retA_is (by (simp (implicitDefEqProofs := false) (maxSteps := 2000000) (disch := omega) only [go_sem, Go.Proofs.Tryz.results57, madeM, h, ha, hb, madeA]); rfl) ?_; refine eN hE ?_; simp [oneA, ren, renL, madeM, h, ha, hb, madeA])
      · rw [hb] at mb
        (repeat' (first | refine awp_seq ?_ | refine awp_block ?_ | refine awp_skip ?_ | refine awp_exit ?_ | ((first | refine rR (fun K kp hK hkp => ?_) | refine cR ma ?_ | refine cR mb ?_ | refine iG ?_); simp (implicitDefEqProofs := false) (maxSteps := 2000000) (disch := omega) only [go_sem, eO, h]; (repeat' (first | (refine hK _ ?_; clear hK hkp kp K) | (with_reducible refine And.intro ?_ ?_) | omega))) | ((first | refine aG (fun h => ?_) (fun h => ?_) | refine aD (fun h => ?_) (fun h => ?_) | refine aX (fun h => ?_) (fun h => ?_)) <;> simp only [h]) | refine awp_cond_t rfl ?_ | refine awp_cond_f rfl ?_ | ((refine awp_cond rfl (fun h => ?_) (fun h => ?_) <;> try simp only [ifs] at h) <;> (try (exfalso; omega))) | refine awp_ret ?_))
        (refine retA_is (by (simp (implicitDefEqProofs := false) (maxSteps := 2000000) (disch := omega) only [go_sem, Go.Proofs.Tryz.results57, madeM, h, ha, hb, madeA]); rfl) ?_; refine eN hE ?_; simp [oneA, ren, renL, madeM, h, ha, hb, madeA])
  · have ma := made1_con E.G a 2
    have mb := made1_con E.G b 2
    cases ha : isK a 2
    · rw [ha] at ma
      (repeat' (first | refine awp_seq ?_ | refine awp_block ?_ | refine awp_skip ?_ | refine awp_exit ?_ | ((first | refine rR (fun K kp hK hkp => ?_) | refine cR ma ?_ | refine iG ?_); simp (implicitDefEqProofs := false) (maxSteps := 2000000) (disch := omega) only [go_sem, eO, h]; (repeat' (first | (refine hK _ ?_; clear hK hkp kp K) | (with_reducible refine And.intro ?_ ?_) | omega))) | ((first | refine aG (fun h => ?_) (fun h => ?_) | refine aD (fun h => ?_) (fun h => ?_) | refine aX (fun h => ?_) (fun h => ?_)) <;> simp only [h]) | refine awp_cond_t rfl ?_ | refine awp_cond_f rfl ?_ | ((refine awp_cond rfl (fun h => ?_) (fun h => ?_) <;> try simp only [ifs] at h) <;> (try (exfalso; omega))) | refine awp_ret ?_))
      (refine retA_is (by (simp (implicitDefEqProofs := false) (maxSteps := 2000000) (disch := omega) only [go_sem, Go.Proofs.Tryz.results57, madeM, h, ha, madeA]); rfl) ?_; refine eN hE ?_; simp [oneA, ren, renL, madeM, h, ha, madeA])
    · rw [ha] at ma
      cases hb : isK b 2
      · rw [hb] at mb
        (repeat' (first | refine awp_seq ?_ | refine awp_block ?_ | refine awp_skip ?_ | refine awp_exit ?_ | ((first | refine rR (fun K kp hK hkp => ?_) | refine cR ma ?_ | refine cR mb ?_ | refine iG ?_); simp (implicitDefEqProofs := false) (maxSteps := 2000000) (disch := omega) only [go_sem, eO, h]; (repeat' (first | (refine hK _ ?_; clear hK hkp kp K) | (with_reducible refine And.intro ?_ ?_) | omega))) | ((first | refine aG (fun h => ?_) (fun h => ?_) | refine aD (fun h => ?_) (fun h => ?_) | refine aX (fun h => ?_) (fun h => ?_)) <;> simp only [h]) | refine awp_cond_t rfl ?_ | refine awp_cond_f rfl ?_ | ((refine awp_cond rfl (fun h => ?_) (fun h => ?_) <;> try simp only [ifs] at h) <;> (try (exfalso; omega))) | refine awp_ret ?_))
        (refine retA_is (by (simp (implicitDefEqProofs := false) (maxSteps := 2000000) (disch := omega) only [go_sem, Go.Proofs.Tryz.results57, madeM, h, ha, hb, madeA]); rfl) ?_; refine eN hE ?_; simp [oneA, ren, renL, madeM, h, ha, hb, madeA])
      · rw [hb] at mb
        (repeat' (first | refine awp_seq ?_ | refine awp_block ?_ | refine awp_skip ?_ | refine awp_exit ?_ | ((first | refine rR (fun K kp hK hkp => ?_) | refine cR ma ?_ | refine cR mb ?_ | refine iG ?_); simp (implicitDefEqProofs := false) (maxSteps := 2000000) (disch := omega) only [go_sem, eO, h]; (repeat' (first | (refine hK _ ?_; clear hK hkp kp K) | (with_reducible refine And.intro ?_ ?_) | omega))) | ((first | refine aG (fun h => ?_) (fun h => ?_) | refine aD (fun h => ?_) (fun h => ?_) | refine aX (fun h => ?_) (fun h => ?_)) <;> simp only [h]) | refine awp_cond_t rfl ?_ | refine awp_cond_f rfl ?_ | ((refine awp_cond rfl (fun h => ?_) (fun h => ?_) <;> try simp only [ifs] at h) <;> (try (exfalso; omega))) | refine awp_ret ?_))
        (refine retA_is (by (simp (implicitDefEqProofs := false) (maxSteps := 2000000) (disch := omega) only [go_sem, Go.Proofs.Tryz.results57, madeM, h, ha, hb, madeA]); rfl) ?_; refine eN hE ?_; simp [oneA, ren, renL, madeM, h, ha, hb, madeA])
  · (repeat' (first | refine awp_seq ?_ | refine awp_block ?_ | refine awp_skip ?_ | refine awp_exit ?_ | ((first | refine rR (fun K kp hK hkp => ?_) | refine iG ?_); simp (implicitDefEqProofs := false) (maxSteps := 2000000) (disch := omega) only [go_sem, eO, h]; (repeat' (first | (refine hK _ ?_; clear hK hkp kp K) | (with_reducible refine And.intro ?_ ?_) | omega))) | ((first | refine aG (fun h => ?_) (fun h => ?_) | refine aD (fun h => ?_) (fun h => ?_) | refine aX (fun h => ?_) (fun h => ?_)) <;> simp only [h]) | refine awp_cond_t rfl ?_ | refine awp_cond_f rfl ?_ | ((refine awp_cond rfl (fun h => ?_) (fun h => ?_) <;> try simp only [ifs] at h) <;> (try (exfalso; omega))) | refine awp_ret ?_))
    (refine retA_is (by (simp (implicitDefEqProofs := false) (maxSteps := 2000000) (disch := omega) only [go_sem, Go.Proofs.Tryz.results57, madeM, h, madeA]); rfl) ?_; refine eN hE ?_; simp [oneA, ren, renL, madeM, h, madeA])
end Go.AM
/- Kinds: the fold over a stack of kinds. -/
namespace Go.AM
open Go Go.RowKit
open Go.Proofs.YtoecmmpjndcolaaGreatDoor (OP nameM litM exprM exprFrom stepM popsM)
attribute [local irreducible] AWP retA
theorem works_con (G : List (Nat × List Value)) (o : OP) (h1 : 1 ≤ o.k) (h11 : o.k ≤ 11) : Con Go.Proofs.Tryz.prog G 32 [.r (.int .i64 o.k)] [] 0 (Is (.r (.int .i64 (arO o))) [] 0) No := by
  refine con_of_awp Go.Proofs.Tryz.func32 rfl (by kernel_rfl) (of_decide_eq_true (by kernel_rfl)) ?_; intro E hG hE; subst hG; simp only [ent]
  obtain h | h | h | h | h | h | h | h | h | h | h : o.k = 1 ∨ o.k = 2 ∨ o.k = 3 ∨ o.k = 4 ∨ o.k = 5 ∨ o.k = 6 ∨ o.k = 7 ∨ o.k = 8 ∨ o.k = 9 ∨ o.k = 10 ∨ o.k = 11 := by omega
  all_goals
    (repeat' (first | refine awp_seq ?_ | refine awp_block ?_ | refine awp_skip ?_ | refine awp_exit ?_ | ((first | refine rR (fun K kp hK hkp => ?_) | refine iG ?_); simp (implicitDefEqProofs := false) (maxSteps := 2000000) (disch := omega) only [go_sem, h]; (repeat' (first | (refine hK _ ?_; clear hK hkp kp K) | (with_reducible refine And.intro ?_ ?_) | omega))) | ((first | refine aG (fun h => ?_) (fun h => ?_) | refine aD (fun h => ?_) (fun h => ?_) | refine aX (fun h => ?_) (fun h => ?_)) <;> simp only [h]) | refine awp_cond_t rfl ?_ | refine awp_cond_f rfl ?_ | ((refine awp_cond rfl (fun h => ?_) (fun h => ?_) <;> try simp only [ifs] at h) <;> (try (exfalso; omega))) | refine awp_ret ?_))
    (refine retA_is (by (simp (implicitDefEqProofs := false) (maxSteps := 2000000) (disch := omega) only [go_sem, Go.Proofs.Tryz.results32, arO, popsM, h]); rfl) ?_; refine eN hE ?_; simp [oneA, ren, renL, arO, popsM, h])
set_option maxRecDepth 100000 in
theorem kindOf1_con (G : List (Nat × List Value)) (u t : Bool) (l : List CO) (o : OP) (a b : Int) (hl : l.length ≤ 1048576) (h1 : 1 ≤ o.k) (h11 : o.k ≤ 11) : Con Go.Proofs.Tryz.prog G 56 [.agg (eO o), .r (.int .i64 a), .r (.int .i64 b), .re u [.ro t 2 (l.map eC)] 0] [] 0 (Is (madeA (madeM l o a b)) [] 0) No := by
  refine con_of_awp Go.Proofs.Tryz.func56 rfl (by kernel_rfl) (of_decide_eq_true (by kernel_rfl)) ?_; intro E hG hE; subst hG; simp only [ent]
  have mc := made_con E.G t l o a b hl h1 h11
  cases hm : madeM l o a b with
  | error e =>
    rw [hm] at mc; simp only [madeA] at mc
    (repeat' (first | refine awp_seq ?_ | refine awp_block ?_ | refine awp_skip ?_ | refine awp_exit ?_ | ((first | refine rR (fun K kp hK hkp => ?_) | refine cR mc ?_ | refine iG ?_); simp (implicitDefEqProofs := false) (maxSteps := 2000000) (disch := omega) only [go_sem, eO]; (repeat' (first | (refine hK _ ?_; clear hK hkp kp K) | (with_reducible refine And.intro ?_ ?_) | omega))) | ((first | refine aG (fun h => ?_) (fun h => ?_) | refine aD (fun h => ?_) (fun h => ?_) | refine aX (fun h => ?_) (fun h => ?_)) <;> simp only [h]) | refine awp_cond_t rfl ?_ | refine awp_cond_f rfl ?_ | ((refine awp_cond rfl (fun h => ?_) (fun h => ?_) <;> try simp only [ifs] at h) <;> (try (exfalso; omega))) | refine awp_ret ?_))
    (refine retA_is (by (simp (implicitDefEqProofs := false) (maxSteps := 2000000) (disch := omega) only [go_sem, Go.Proofs.Tryz.results56, madeA]); rfl) ?_; refine eN hE ?_; simp [oneA, ren, renL, madeA])
  | ok k =>
    rw [hm] at mc; simp only [madeA] at mc
    (repeat' (first | refine awp_seq ?_ | refine awp_block ?_ | refine awp_skip ?_ | refine awp_exit ?_ | ((first | refine rR (fun K kp hK hkp => ?_) | refine cR mc ?_ | refine iG ?_); simp (implicitDefEqProofs := false) (maxSteps := 2000000) (disch := omega) only [go_sem, eO]; (repeat' (first | (refine hK _ ?_; clear hK hkp kp K) | (with_reducible refine And.intro ?_ ?_) | omega))) | ((first | refine aG (fun h => ?_) (fun h => ?_) | refine aD (fun h => ?_) (fun h => ?_) | refine aX (fun h => ?_) (fun h => ?_)) <;> simp only [h]) | refine awp_cond_t rfl ?_ | refine awp_cond_f rfl ?_ | ((refine awp_cond rfl (fun h => ?_) (fun h => ?_) <;> try simp only [ifs] at h) <;> (try (exfalso; omega))) | refine awp_ret ?_))
    (refine retA_is (by (simp (implicitDefEqProofs := false) (maxSteps := 2000000) (disch := omega) only [go_sem, Go.Proofs.Tryz.results56, madeA]); rfl) ?_; refine eN hE ?_; simp [oneA, ren, renL, madeA])
end Go.AM
/- Bounds: expr.begins. -/
namespace Go.AM
open Go Go.RowKit
open Go.Proofs.YtoecmmpjndcolaaGreatDoor (OP nameM litM exprM exprFrom stepM popsM)
attribute [local irreducible] AWP retA
set_option maxRecDepth 100000 in
set_option maxHeartbeats 4000000 in
theorem beginsP_con (G : List (Nat × List Value)) (t : Bool) (l : List OP) (e : Nat) (hl : l.length ≤ 1000) (he : e ≤ l.length) (hk : ∀ o ∈ l, 1 ≤ o.k ∧ o.k ≤ 11) (hc : ∀ (i n : Nat), i ≤ e → cnt arO (l.take e).reverse 1 = (e - i) + cnt arO (l.take i).reverse (n + 1) → 0 < i) :
    Con Go.Proofs.Tryz.prog G 45 [.ro t 5 (l.map eO), .r (.int .i64 e)] [] 0 (Is (.r (.int .i64 (begM arO l e))) [] 0) No := by
  refine con_of_awp Go.Proofs.Tryz.func45 rfl (by kernel_rfl) (of_decide_eq_true (by kernel_rfl)) ?_; intro E hG hE; subst hG; simp only [ent]
  (repeat' (first | refine awp_seq ?_ | refine awp_block ?_ | refine awp_skip ?_ | refine awp_exit ?_ | ((first | refine rR (fun K kp hK hkp => ?_) | refine iG ?_); simp (implicitDefEqProofs := false) (maxSteps := 2000000) (disch := omega) only [go_sem]; (repeat' (first | (refine hK _ ?_; clear hK hkp kp K) | (with_reducible refine And.intro ?_ ?_) | omega))) | ((first | refine aG (fun h => ?_) (fun h => ?_) | refine aD (fun h => ?_) (fun h => ?_) | refine aX (fun h => ?_) (fun h => ?_)) <;> simp only [h]) | refine awp_cond_t rfl ?_ | refine awp_cond_f rfl ?_ | ((refine awp_cond rfl (fun h => ?_) (fun h => ?_) <;> try simp only [ifs] at h) <;> (try (exfalso; omega))) | refine awp_ret ?_))
  refine awp_loop (fun q : Nat × Nat => ⟨[(5, .r (.int .i64 q.1)), (6, .r (.int .i64 q.2)), (0, .ro t 5 (l.map eO))], [], 0⟩) (fun q => q.1 ≤ e ∧ q.2 ≤ 1 + 2 * (e - q.1) ∧ cnt arO (l.take e).reverse 1 = (e - q.1) + cnt arO (l.take q.1).reverse q.2) (fun q => q.1) (e, 1) ?_ ?_ ?_
  · exact ⟨Nat.le_refl _, by simp, by simp⟩
  · (refine emb [] ?_ ?_ rfl ?_ ?_ ?_ ?_ <;> simp [okM, okO, lk, ren, renL, renNd, by_, hE] <;> (try omega))
  rintro ⟨i, n⟩ ⟨hi, hn, hno⟩
  simp only at hi hn hno ⊢
  cases n with
  | zero =>
    have hb : begM arO l e = i := by unfold begM; rw [hno]; simp [cnt]; omega
    (repeat' (first | refine awp_seq ?_ | refine awp_block ?_ | refine awp_skip ?_ | refine awp_exit ?_ | ((first | refine rR (fun K kp hK hkp => ?_) | refine iG ?_); simp (implicitDefEqProofs := false) (maxSteps := 2000000) (disch := omega) only [go_sem]; (repeat' (first | (refine hK _ ?_; clear hK hkp kp K) | (with_reducible refine And.intro ?_ ?_) | omega))) | ((first | refine aG (fun h => ?_) (fun h => ?_) | refine aD (fun h => ?_) (fun h => ?_) | refine aX (fun h => ?_) (fun h => ?_)) <;> simp only [h]) | refine awp_cond_t rfl ?_ | refine awp_cond_f rfl ?_ | ((refine awp_cond rfl (fun h => ?_) (fun h => ?_) <;> try simp only [ifs] at h) <;> (try (exfalso; omega))) | refine awp_ret ?_))
    (refine retA_is (by (simp (implicitDefEqProofs := false) (maxSteps := 2000000) (disch := omega) only [go_sem, Go.Proofs.Tryz.results45, hb]); rfl) ?_; refine eN hE ?_; simp [oneA, ren, renL, hb])
  | succ n =>
    have h0 := hc i n hi hno
    obtain ⟨j, rfl⟩ : ∃ j, i = j + 1 := ⟨i - 1, by omega⟩
    obtain ⟨o, hx⟩ : ∃ o, l[j]? = some o := ⟨l[j]'(by omega), by simp⟩
    rw [cnt_step hx] at hno
    obtain ⟨g1, g11⟩ := hk o (List.mem_of_getElem? hx)
    have wc := works_con E.G o g1 g11
    have h2 := arO_le o
    have e4 : (n : Int) + 1 + ((arO o : Nat) - 1 : Int) = (n + arO o : Nat) := by omega
    have e5 : ((n + 1 : Nat) : Int) + ((arO o : Nat) - 1 : Int) = (n + arO o : Nat) := by omega
    have e1 : ((j + 1 : Nat) : Int) - 1 = (j : Nat) := by omega
    have e2 : ((n + 1 : Nat) : Int) - 1 = (n : Nat) := by omega
    have e3 : (n : Int) + (arO o : Nat) = (n + arO o : Nat) := by omega
    (repeat' (first | refine awp_seq ?_ | refine awp_block ?_ | refine awp_skip ?_ | refine awp_exit ?_ | ((first | refine rR (fun K kp hK hkp => ?_) | refine cR wc ?_ | refine iG ?_); simp (implicitDefEqProofs := false) (maxSteps := 2000000) (disch := omega) only [go_sem, hx, eO, e1, e2, e4, e5, Int.toNat_natCast, Int.natCast_nonneg]; (repeat' (first | (refine hK _ ?_; clear hK hkp kp K) | (with_reducible refine And.intro ?_ ?_) | omega))) | ((first | refine aG (fun h => ?_) (fun h => ?_) | refine aD (fun h => ?_) (fun h => ?_) | refine aX (fun h => ?_) (fun h => ?_)) <;> simp only [h]) | refine awp_cond_t rfl ?_ | refine awp_cond_f rfl ?_ | ((refine awp_cond rfl (fun h => ?_) (fun h => ?_) <;> try simp only [ifs] at h) <;> (try (exfalso; omega))) | refine awp_ret ?_))
    ((first | (refine nextB ((j, n + arO o)) ?_ ?_ ?_) | (refine nextA ((j, n + arO o)) ?_ ?_ ?_)); rotate_left; (· (try dsimp only); (first | omega | (simp only [List.length_drop, List.length_cons, List.length_append]; omega) | (simp; done) | (simp; omega))); (· (refine emb [] ?_ ?_ rfl ?_ ?_ ?_ ?_ <;> simp [okM, okO, lk, ren, renL, renNd, by_, hE] <;> (try omega))))
    refine ⟨by omega, by dsimp only; omega, by dsimp only; omega⟩
end Go.AM
/- Bytes: bytes.Compare, copies. -/
namespace Go.AM
open Go Go.RowKit
attribute [local irreducible] AWP retA
theorem rep_bytes {P : Program} {w : World} {z : Zone} {t : Bool} {l : List UInt8} {v : Value} (h : Rep w z [] (.ro t 1 (l.map eByte)) v) : (Extern.Bytes.bytesOf v).run P w = .ok ⟨l.toArray⟩ w := by
  obtain ⟨ad, c, rfl, hc, hh⟩ := h.ro_inv
  rcases hh with h1 | ⟨b, o, rfl, hz, hcell⟩
  · have : l = [] := by simpa using h1
    subst this
    cases ad <;> rfl
  · have key := Lib.run_loadBytesX (P := P) (w := w) (l.map fun x => (x.toNat : Int)) ⟨b, o, none⟩ .empty (by
      intro j x hx
      rw [List.getElem?_map, Option.map_eq_some_iff] at hx
      obtain ⟨y, hy, rfl⟩ := hx
      obtain ⟨_, h3⟩ := hcell j (eByte y) (by rw [List.getElem?_map, hy]; rfl)
      obtain ⟨u, hu, hr, _⟩ := h3 0 _ rfl
      obtain rfl := hr.r_inv
      rw [add_none]; simpa using hu)
    have e1 : Lib.bytesOf (l.map fun x => (x.toNat : Int)) = l := by
      rw [Lib.bytesOf, List.map_map]
      refine (List.map_congr_left (fun x _ => ?_)).trans (List.map_id _)
      show UInt8.ofNat ((x.toNat : Int).toNat) = x
      rw [Int.toNat_natCast, UInt8.ofNat_toNat]
    rw [e1, List.length_map] at key
    show (Extern.Bytes.loadBytes ⟨b, o, none⟩ (l.map eByte).length .empty).run P w = _
    rw [List.length_map, key]
    simp
theorem run_bcmp {w : World} {z : Zone} {t u : Bool} {l m : List UInt8} {a b : Value} (ha : Rep w z [] (.ro t 1 (l.map eByte)) a) (hb : Rep w z [] (.ro u 1 (m.map eByte)) b) :
    (callFunc 75 #[a, b]).run Go.Proofs.Tryz.prog w = .ok (.value (.int .i64 (Lib.compareBytes l m))) w := by
  have hf : Go.Proofs.Tryz.prog.funcs[75]? = some Go.Proofs.Tryz.f75 := by kernel_rfl
  rw [run_callFunc_extern hf (by kernel_rfl) (by kernel_rfl) (by kernel_rfl) (e := Extern.BytealgCompare.compare) (by kernel_rfl)]
  have : (Extern.BytealgCompare.compare #[a, b]).run Go.Proofs.Tryz.prog w = .ok (.int .i64 (Lib.compareBytes l m)) w := by
    show ((Extern.Bytes.bytesOf a) >>= fun x => (Extern.Bytes.bytesOf b) >>= fun y => pure (goInt (Extern.BytealgCompare.cmp x y))).run _ w = _
    simp only [Sem.run_bind, rep_bytes ha, rep_bytes hb, Result.andThen_ok, Sem.run_pure, Lib.cmp_eq]
    rfl
  rw [this]; rfl
theorem bcmp_any {w : World} {z : Zone} {t u : Bool} {l m : List UInt8} {a b : Value} (ha : Rep w z [] (.ro t 1 (l.map eByte)) a) (hb : Rep w z [] (.ro u 1 (m.map eByte)) b) :
    Calls Go.Proofs.Tryz.prog 50 #[a, b] w fun e w' => e = .returned (.int .i64 (Lib.compareBytes l m)) ∧ Below w.heap.size w w' := by
  have h75 := run_bcmp ha hb
  go_enter Go.Proofs.Tryz.func50, Go.Proofs.Tryz.ntmps50
  go_wp2
  go_ret
  exact ⟨rfl, Below.refl _ _⟩
theorem bcmp_con (G : List (Nat × List Value)) (t u : Bool) (l m : List UInt8) : Con Go.Proofs.Tryz.prog G 50 [.ro t 1 (l.map eByte), .ro u 1 (m.map eByte)] [] 0 (Is (.r (.int .i64 (Lib.compareBytes l m))) [] 0) No :=
  con_of_calls (by kernel_rfl) (fun w z vs hz hr hG => by
    obtain ⟨v, r, rfl, h1, h2⟩ := hr.head
    obtain ⟨v2, r2, rfl, h3, h4⟩ := h2.head
    obtain rfl := h4.of_nil
    exact bcmp_any h1 h3)
/-- A row of bytes that is nil where it is empty. -/
def nbA (l : List UInt8) : AV := match l with
  | [] => .r (.slice none 0 0)
  | x :: r => .ro true 1 ((x :: r).map eByte)
set_option maxRecDepth 100000 in
theorem cloneB_con (G : List (Nat × List Value)) (t : Bool) (x : UInt8) (l : List UInt8) (hl : l.length ≤ 1048576) : Con Go.Proofs.Tryz.prog G 51 [.ro t 1 ((x :: l).map eByte)] [] 0 (Is (.ro true 1 ((x :: l).map eByte)) [] 0) No := by
  refine con_of_awp Go.Proofs.Tryz.func51 rfl (by kernel_rfl) (of_decide_eq_true (by kernel_rfl)) ?_; intro E hG hE; subst hG; simp only [ent]
  (repeat' (first | refine awp_seq ?_ | refine awp_block ?_ | refine awp_skip ?_ | refine awp_exit ?_ | ((first | refine rR (fun K kp hK hkp => ?_) | refine iG ?_); simp (implicitDefEqProofs := false) (maxSteps := 2000000) (disch := omega) only [go_sem]; (repeat' (first | (refine hK _ ?_; clear hK hkp kp K) | (with_reducible refine And.intro ?_ ?_) | omega))) | ((first | refine aG (fun h => ?_) (fun h => ?_) | refine aD (fun h => ?_) (fun h => ?_) | refine aX (fun h => ?_) (fun h => ?_)) <;> simp only [h]) | refine awp_cond_t rfl ?_ | refine awp_cond_f rfl ?_ | ((refine awp_cond rfl (fun h => ?_) (fun h => ?_) <;> try simp only [ifs] at h) <;> (try (exfalso; omega))) | refine awp_ret ?_))
  (refine retA_is (by (simp (implicitDefEqProofs := false) (maxSteps := 2000000) (disch := omega) only [go_sem, Go.Proofs.Tryz.results51]); rfl) ?_; refine embS_frz (by simp only [oneA]; simp (implicitDefEqProofs := false) (maxSteps := 2000000) (disch := omega) only [go_sem]; rfl) ?_; refine (embV_nil hE (by simp) ?_).s; simp [oneA, ren, renL])
set_option maxRecDepth 100000 in
theorem bytesCopy_con (G : List (Nat × List Value)) (t : Bool) (l : List UInt8) (hl : l.length ≤ 1048576) : Con Go.Proofs.Tryz.prog G 26 [.ro t 1 (l.map eByte)] [] 0 (Is (.ro true 1 (l.map eByte)) [] 0) No := by
  refine con_of_awp Go.Proofs.Tryz.func26 rfl (by kernel_rfl) (of_decide_eq_true (by kernel_rfl)) ?_; intro E hG hE; subst hG; simp only [ent]
  (repeat' (first | refine awp_seq ?_ | refine awp_block ?_ | refine awp_skip ?_ | refine awp_exit ?_ | ((first | refine rR (fun K kp hK hkp => ?_) | refine iG ?_); simp (implicitDefEqProofs := false) (maxSteps := 2000000) (disch := omega) only [go_sem]; (repeat' (first | (refine hK _ ?_; clear hK hkp kp K) | (with_reducible refine And.intro ?_ ?_) | omega))) | ((first | refine aG (fun h => ?_) (fun h => ?_) | refine aD (fun h => ?_) (fun h => ?_) | refine aX (fun h => ?_) (fun h => ?_)) <;> simp only [h]) | refine awp_cond_t rfl ?_ | refine awp_cond_f rfl ?_ | ((refine awp_cond rfl (fun h => ?_) (fun h => ?_) <;> try simp only [ifs] at h) <;> (try (exfalso; omega))) | refine awp_ret ?_))
  (refine AWP.emb (emb_nil 3 5 1 ?_) ?_; (· rfl); dsimp only)
  refine awp_loop (fun k : Nat => ⟨[(4, .r (.int .i64 k)), (3, .s 0 0 k), (0, .ro t 1 (l.map eByte))], [(0, .lst 5 1 ((l.take k).map eByte))], 1⟩) (fun k => k ≤ l.length) (fun k => l.length - k) 0 ?_ ?_ ?_
  · simp
  · (refine emb [0] ?_ ?_ rfl ?_ ?_ ?_ ?_ <;> simp [okM, okO, lk, ren, renL, renNd, by_, hE] <;> (try omega))
  intro k hk
  have hz : (l.take k).length = k := by rw [List.length_take]; omega
  by_cases hlt : k < l.length
  · obtain ⟨x, hx⟩ : ∃ x, l[k]? = some x := ⟨l[k], by simp [hlt]⟩
    have htk : l.take (k + 1) = l.take k ++ [x] := by rw [List.take_add_one, hx]; rfl
    (repeat' (first | refine awp_seq ?_ | refine awp_block ?_ | refine awp_skip ?_ | refine awp_exit ?_ | ((first | refine rR (fun K kp hK hkp => ?_) | refine iG ?_); simp (implicitDefEqProofs := false) (maxSteps := 2000000) (disch := omega) only [go_sem, hx, eByte]; (repeat' (first | (refine hK _ ?_; clear hK hkp kp K) | (with_reducible refine And.intro ?_ ?_) | omega))) | ((first | refine aG (fun h => ?_) (fun h => ?_) | refine aD (fun h => ?_) (fun h => ?_) | refine aX (fun h => ?_) (fun h => ?_)) <;> simp only [h]) | refine awp_cond_t rfl ?_ | refine awp_cond_f rfl ?_ | ((refine awp_cond rfl (fun h => ?_) (fun h => ?_) <;> try simp only [ifs] at h) <;> (try (exfalso; omega))) | refine awp_ret ?_))
    ((first | (refine nextB (k + 1) ?_ ?_ ?_) | (refine nextA (k + 1) ?_ ?_ ?_)); rotate_left; (· (try dsimp only); (first | omega | (simp only [List.length_drop, List.length_cons, List.length_append]; omega) | (simp; done) | (simp; omega))); (· (refine emb [2] ?_ ?_ rfl ?_ ?_ ?_ ?_ <;> simp [okM, okO, lk, ren, renL, renNd, by_, hE, eByte, htk, List.take_take, Nat.min_self] <;> (try omega))))
    omega
  · obtain rfl : k = l.length := by omega
    rw [List.take_length]
    (repeat' (first | refine awp_seq ?_ | refine awp_block ?_ | refine awp_skip ?_ | refine awp_exit ?_ | ((first | refine rR (fun K kp hK hkp => ?_) | refine iG ?_); simp (implicitDefEqProofs := false) (maxSteps := 2000000) (disch := omega) only [go_sem]; (repeat' (first | (refine hK _ ?_; clear hK hkp kp K) | (with_reducible refine And.intro ?_ ?_) | omega))) | ((first | refine aG (fun h => ?_) (fun h => ?_) | refine aD (fun h => ?_) (fun h => ?_) | refine aX (fun h => ?_) (fun h => ?_)) <;> simp only [h]) | refine awp_cond_t rfl ?_ | refine awp_cond_f rfl ?_ | ((refine awp_cond rfl (fun h => ?_) (fun h => ?_) <;> try simp only [ifs] at h) <;> (try (exfalso; omega))) | refine awp_ret ?_))
    (refine retA_is (by (simp (implicitDefEqProofs := false) (maxSteps := 2000000) (disch := omega) only [go_sem, Go.Proofs.Tryz.results26]); rfl) ?_; refine embS_frz (by simp only [oneA]; simp (implicitDefEqProofs := false) (maxSteps := 2000000) (disch := omega) only [go_sem]; rfl) ?_; refine (embV_nil hE (by simp) ?_).s; simp [oneA, ren, renL])
set_option maxRecDepth 100000 in
theorem keyBefore_con (G : List (Nat × List Value)) (t u : Bool) (l m : List UInt8) : Con Go.Proofs.Tryz.prog G 25 [.ro t 1 (l.map eByte), .ro u 1 (m.map eByte)] [] 0 (Is (.r (.bool (Op.bytesLess l m))) [] 0) No := by
  refine con_of_awp Go.Proofs.Tryz.func25 rfl (by kernel_rfl) (of_decide_eq_true (by kernel_rfl)) ?_; intro E hG hE; subst hG; simp only [ent]
  (repeat' (first | refine awp_seq ?_ | refine awp_block ?_ | refine awp_skip ?_ | refine awp_exit ?_ | ((first | refine rR (fun K kp hK hkp => ?_) | refine iG ?_); simp (implicitDefEqProofs := false) (maxSteps := 2000000) (disch := omega) only [go_sem, unb_map]; (repeat' (first | (refine hK _ ?_; clear hK hkp kp K) | (with_reducible refine And.intro ?_ ?_) | omega))) | ((first | refine aG (fun h => ?_) (fun h => ?_) | refine aD (fun h => ?_) (fun h => ?_) | refine aX (fun h => ?_) (fun h => ?_)) <;> simp only [h]) | refine awp_cond_t rfl ?_ | refine awp_cond_f rfl ?_ | ((refine awp_cond rfl (fun h => ?_) (fun h => ?_) <;> try simp only [ifs] at h) <;> (try (exfalso; omega))) | refine awp_ret ?_))
  (refine retA_is (by (simp (implicitDefEqProofs := false) (maxSteps := 2000000) (disch := omega) only [go_sem, Go.Proofs.Tryz.results25]); rfl) ?_; refine eN hE ?_; simp [oneA, ren, renL])
  all_goals simp [ByteArray.toList_eq]
end Go.AM
/- Plain facts on 64-bit arithmetic: does a product fit? No program in sight. -/
namespace Go.Proofs.YtoecmmpjndcolaaGreatDoor
open Go.RowKit
/-- Does it fit into 64 bits? -/
def fitsI (x : Int) : Bool := decide (-9223372036854775808 ≤ x ∧ x ≤ 9223372036854775807)
theorem fitsI_iff (x : Int) : fitsI x = true ↔ (-9223372036854775808 ≤ x ∧ x ≤ 9223372036854775807) := by simp [fitsI]
theorem q_pos (a b : Int) (ha : 0 < a) (hb : 0 < b) : decide (wrap64 (Int.tdiv 9223372036854775807 b) < a) = !fitsI (a * b) := by
  have e : Int.tdiv 9223372036854775807 b = 9223372036854775807 / b := Int.tdiv_eq_ediv_of_nonneg (by decide)
  have h0 : 0 ≤ (9223372036854775807 : Int) / b := Int.ediv_nonneg (by decide) (by omega)
  have h1 : (9223372036854775807 : Int) / b ≤ 9223372036854775807 := Int.ediv_le_self _ (by decide)
  rw [e, IntWalk.wrap64_in _ ⟨by omega, by omega⟩]
  have h2 := @Int.ediv_lt_iff_lt_mul 9223372036854775807 a b hb
  have h3 : 0 < a * b := Int.mul_pos ha hb
  rw [Bool.eq_iff_iff]
  simp only [decide_eq_true_eq, Bool.not_eq_true', ← Bool.not_eq_true, fitsI_iff]
  rw [h2]
  omega
theorem tdiv_neg_pos (m b : Int) (hm : 0 ≤ m) : Int.tdiv m b = -(m / (-b)) := by
  have := Int.tdiv_neg m (-b)
  rw [Int.neg_neg] at this
  rw [this, Int.tdiv_eq_ediv_of_nonneg hm]
theorem q_neg (a b : Int) (ha : a < 0) (hb : b < 0) : decide (a < wrap64 (Int.tdiv 9223372036854775807 b)) = !fitsI (a * b) := by
  rw [tdiv_neg_pos _ _ (by decide)]
  have h0 : 0 ≤ (9223372036854775807 : Int) / (-b) := Int.ediv_nonneg (by decide) (by omega)
  have h1 : (9223372036854775807 : Int) / (-b) ≤ 9223372036854775807 := Int.ediv_le_self _ (by decide)
  rw [IntWalk.wrap64_in _ ⟨by omega, by omega⟩]
  have h2 := @Int.ediv_lt_iff_lt_mul 9223372036854775807 (-a) (-b) (by omega)
  have h3 : 0 < (-a) * (-b) := Int.mul_pos (by omega) (by omega)
  have h4 : (-a) * (-b) = a * b := by rw [Int.neg_mul_neg]
  rw [h4] at h2 h3
  rw [Bool.eq_iff_iff]
  simp only [decide_eq_true_eq, Bool.not_eq_true', ← Bool.not_eq_true, fitsI_iff]
  constructor
  · intro h
    have := h2.1 (by omega)
    omega
  · intro h
    have := h2.2 (by omega)
    omega
theorem q_mix (a b : Int) (ha : 0 < a) (hb : b < 0) : decide (b < wrap64 (-Int.tdiv 9223372036854775808 a)) = !fitsI (a * b) := by
  have e : Int.tdiv 9223372036854775808 a = 9223372036854775808 / a := Int.tdiv_eq_ediv_of_nonneg (by decide)
  have h0 : 0 ≤ (9223372036854775808 : Int) / a := Int.ediv_nonneg (by decide) (by omega)
  have h1 : (9223372036854775808 : Int) / a ≤ 9223372036854775808 := Int.ediv_le_self _ (by decide)
  rw [e, IntWalk.wrap64_in _ ⟨by omega, by omega⟩]
  have h2 := @Int.ediv_lt_iff_lt_mul 9223372036854775808 (-b) a ha
  have h3 : 0 < (-b) * a := Int.mul_pos (by omega) ha
  have h4 : (-b) * a = -(a * b) := by rw [Int.neg_mul, Int.mul_comm]
  rw [h4] at h2 h3
  rw [Bool.eq_iff_iff]
  simp only [decide_eq_true_eq, Bool.not_eq_true', ← Bool.not_eq_true, fitsI_iff]
  constructor
  · intro h
    have := h2.1 (by omega)
    omega
  · intro h
    have := h2.2 (by omega)
    omega
theorem q_mix' (a b : Int) (ha : a < 0) (hb : 0 < b) : decide (a < wrap64 (-Int.tdiv 9223372036854775808 b)) = !fitsI (a * b) := by
  rw [Int.mul_comm a b]
  exact q_mix b a hb ha
theorem q_one (b : Int) (h : -9223372036854775808 ≤ b) (h' : b ≤ 9223372036854775807) : (b == -9223372036854775808) = !fitsI (-1 * b) := by
  rw [Bool.eq_iff_iff]
  simp only [beq_iff_eq, Bool.not_eq_true', ← Bool.not_eq_true, fitsI_iff]
  omega
theorem q_one' (a : Int) (h : -9223372036854775808 ≤ a) (h' : a ≤ 9223372036854775807) : (a == -9223372036854775808) = !fitsI (a * -1) := by
  rw [Int.mul_comm]
  exact q_one a h h'
/-- The product's own test: by dividing back. -/
theorem mul_ok (a b : Int) (h0 : a ≠ 0) (ha : -9223372036854775808 ≤ a) (ha' : a ≤ 9223372036854775807) (hb : -9223372036854775808 ≤ b) (hb' : b ≤ 9223372036854775807) :
    (wrap64 ((wrap64 (a * b)).tdiv a) = b ∧ ¬ (a = -1 ∧ b = -9223372036854775808)) ↔ fitsI (a * b) = true := by
  rw [fitsI_iff]
  constructor
  · rintro ⟨h1, h2⟩
    by_cases hf : -9223372036854775808 ≤ a * b ∧ a * b ≤ 9223372036854775807
    · exact hf
    exfalso
    have hn : wrap64 (a * b) ≠ a * b := by
      unfold wrap64; omega
    have hr : -9223372036854775808 ≤ wrap64 (a * b) ∧ wrap64 (a * b) ≤ 9223372036854775807 := by unfold wrap64; omega
    have hd : wrap64 (a * b) = (a * b + 9223372036854775808) % 18446744073709551616 - 9223372036854775808 := by unfold wrap64; omega
    generalize wrap64 (a * b) = n at *
    by_cases hm : a = -1
    · subst hm
      rw [Int.tdiv_neg, Int.tdiv_one] at h1
      by_cases hmin : n = -9223372036854775808
      · subst hmin
        have : b = -9223372036854775808 := by rw [← h1]; unfold wrap64; omega
        exact h2 ⟨rfl, this⟩
      · rw [IntWalk.wrap64_in _ ⟨by omega, by omega⟩] at h1
        omega
    by_cases hp : a = 1
    · subst hp
      rw [Int.tdiv_one, IntWalk.wrap64_in _ ⟨by omega, by omega⟩] at h1
      omega
    have hmt := Int.mul_tdiv_add_tmod n a
    have hlt : (n.tmod a).natAbs < a.natAbs := by rw [Int.natAbs_tmod]; exact Nat.mod_lt _ (by omega)
    have hq : (n.tdiv a).natAbs ≤ 4611686018427387904 := by
      rw [Int.natAbs_tdiv]
      have : 2 ≤ a.natAbs := by omega
      calc n.natAbs / a.natAbs ≤ n.natAbs / 2 := Nat.div_le_div_left this (by decide)
        _ ≤ 4611686018427387904 := by omega
    rw [IntWalk.wrap64_in _ ⟨by omega, by omega⟩] at h1
    rw [h1] at hmt
    omega
  · intro h
    have e : wrap64 (a * b) = a * b := IntWalk.wrap64_in _ h
    rw [e, Int.mul_tdiv_cancel_left _ h0, IntWalk.wrap64_in _ ⟨hb, hb'⟩]
    refine ⟨rfl, ?_⟩
    rintro ⟨rfl, rfl⟩
    omega
end Go.Proofs.YtoecmmpjndcolaaGreatDoor
/- Values: what the ops make of them, as plain functions (models and laws without a program). -/
namespace Go.Proofs.YtoecmmpjndcolaaGreatDoor
open Go.RowKit
def vboth (k n : Int) (s : ByteArray) (k' n' : Int) (s' : ByteArray) : Int := if vcheck k n s = 0 then vcheck k' n' s' else vcheck k n s
def oneM (kind k n : Int) (s : ByteArray) : (Int × Int × ByteArray) × Int :=
  if vcheck k n s = 0 then
    if kind = 11 then ((1, if k == 0 then 1 else 0, ⟨#[]⟩), 0)
    else if kind = 5 then
      if k = 0 then ((k, n, s), 0) else if k = 1 then ((1, if n == 0 then 1 else 0, ⟨#[]⟩), 0) else ((0, 0, ⟨#[]⟩), 4)
    else ((0, 0, ⟨#[]⟩), 2)
  else ((0, 0, ⟨#[]⟩), vcheck k n s)
def cmpI (a b : Int) : Int := if a < b then -1 else if b < a then 1 else 0
def or3 (x y z : Int) : Int := if x = 0 then (if y = 0 then z else y) else x
def vcmp (k n : Int) (s : ByteArray) (k' n' : Int) (s' : ByteArray) : Int := or3 (cmpI k k') (cmpI n n') (Lib.compareBytes s.data.toList s'.data.toList)
def vahead (k n : Int) (s : ByteArray) (k' n' : Int) (s' : ByteArray) : Bool :=
  if k ≠ k' then decide (k < k') else if k = 3 then Op.bytesLess s.toList s'.toList else decide (n < n')
theorem compareBytes_less : ∀ (a b : List UInt8), Lib.compareBytes a b = if Op.bytesLess a b = true then -1 else if Op.bytesLess b a = true then 1 else 0
  | [], [] => by simp [Lib.compareBytes, Op.bytesLess]
  | [], _ :: _ => by simp [Lib.compareBytes, Op.bytesLess]
  | _ :: _, [] => by simp [Lib.compareBytes, Op.bytesLess]
  | a :: x, b :: y => by
    have ih := compareBytes_less x y
    simp only [Lib.compareBytes, Op.bytesLess, ih]
    by_cases h1 : a < b
    · simp [h1]
    · by_cases h2 : b < a
      · have : ¬ (a == b) = true := by intro h; simp at h; subst h; exact h1 h2
        simp [h1, h2, this]
      · have e : a = b := by
          have : a.toNat = b.toNat := by simp [UInt8.lt_iff_toNat_lt] at h1 h2; omega
          exact UInt8.toNat.inj this
        subst e
        simp [h1]
theorem bytesLess_irrefl : ∀ (a : List UInt8), Op.bytesLess a a = false
  | [] => rfl
  | a :: x => by simp [Op.bytesLess, bytesLess_irrefl x]
theorem bytesLess_asymm : ∀ (a b : List UInt8), Op.bytesLess a b = true → Op.bytesLess b a = false
  | [], [] => by simp [Op.bytesLess]
  | [], _ :: _ => by simp [Op.bytesLess]
  | _ :: _, [] => by simp [Op.bytesLess]
  | a :: x, b :: y => by
    have ih := bytesLess_asymm x y
    simp only [Op.bytesLess, Bool.or_eq_true, Bool.and_eq_true, decide_eq_true_eq, beq_iff_eq, Bool.or_eq_false_iff, Bool.and_eq_false_iff, decide_eq_false_iff_not]
    rintro (h | ⟨rfl, h⟩)
    · refine ⟨?_, ?_⟩
      · simp [UInt8.lt_iff_toNat_lt] at h ⊢; omega
      · left; rw [beq_eq_false_iff_ne]; intro e; subst e; simp [UInt8.lt_iff_toNat_lt] at h
    · refine ⟨by simp [UInt8.lt_iff_toNat_lt], .inr (ih h)⟩
theorem bytesLess_total : ∀ (a b : List UInt8), Op.bytesLess a b = false → Op.bytesLess b a = false → a = b
  | [], [] => by simp
  | [], _ :: _ => by simp [Op.bytesLess]
  | _ :: _, [] => by simp [Op.bytesLess]
  | a :: x, b :: y => by
    have ih := bytesLess_total x y
    simp only [Op.bytesLess, Bool.or_eq_false_iff, Bool.and_eq_false_iff, decide_eq_false_iff_not, beq_eq_false_iff_ne]
    rintro ⟨h1, h2⟩ ⟨h3, h4⟩
    have e : a = b := by
      have : a.toNat = b.toNat := by simp [UInt8.lt_iff_toNat_lt] at h1 h3; omega
      exact UInt8.toNat.inj this
    subst e
    rw [ih (by simpa using h2) (by simpa using h4)]
theorem compareBytes_nil : Lib.compareBytes [] [] = 0 := rfl
theorem vcheck_ok {k n : Int} {s : ByteArray} (h : vcheck k n s = 0) : (k = 0 ∧ n = 0 ∧ s.toList = []) ∨ (k = 1 ∧ 0 ≤ n ∧ n ≤ 1 ∧ s.toList = []) ∨ (k = 2 ∧ s.toList = []) ∨ (k = 3 ∧ n = 0 ∧ s.size ≤ 20) := by
  unfold vcheck at h
  split at h
  · split at h <;> simp_all
  · split at h
    · split at h
      · simp at h
      · rename_i h'; simp only [not_or, Classical.not_not] at h'; right; left; refine ⟨by assumption, by omega, by omega, h'.2.2⟩
    · split at h
      · split at h <;> simp_all
      · split at h
        · split at h
          · simp at h
          · split at h
            · simp at h
            · right; right; right; refine ⟨by assumption, by simp_all, by omega⟩
        · simp at h
def cmpM (k n : Int) (s : ByteArray) (k' n' : Int) (s' : ByteArray) : Int × Int :=
  if vboth k n s k' n' s' = 0 then (vcmp k n s k' n' s', 0) else (0, vboth k n s k' n' s')
def cmpR (k n : Int) (s : ByteArray) (k' n' : Int) (s' : ByteArray) : Int × Int :=
  if vboth k n s k' n' s' = 0 then (if vahead k n s k' n' s' = true then -1 else if vahead k' n' s' k n s = true then 1 else 0, 0) else (0, vboth k n s k' n' s')
theorem cmp_same (k n : Int) (s : ByteArray) (k' n' : Int) (s' : ByteArray) : cmpM k n s k' n' s' = cmpR k n s k' n' s' := by
  unfold cmpM cmpR
  by_cases hv : vboth k n s k' n' s' = 0
  · rw [if_pos hv, if_pos hv]
    unfold vboth at hv
    split at hv
    · rename_i h1
      have a := vcheck_ok h1
      have b := vcheck_ok hv
      congr 1
      unfold vcmp vahead
      have cl := compareBytes_less s.toList s'.toList
      rw [ByteArray.toList_eq, ByteArray.toList_eq] at cl
      rw [cl]
      simp only [← ByteArray.toList_eq]
      by_cases hk : k = k'
      · subst hk
        by_cases h3 : k = 3
        · subst h3
          have e1 : n = 0 := by omega
          have e2 : n' = 0 := by omega
          subst e1 e2
          simp [or3, cmpI]
        · have s1 : s.toList = [] := by rcases a with a | a | a | a <;> simp_all
          have s2 : s'.toList = [] := by rcases b with b | b | b | b <;> simp_all
          rw [s1, s2]
          simp [or3, cmpI, h3, Op.bytesLess]
          by_cases h : n < n'
          · simp [h]
          · simp [h]
      · have hk' : k' ≠ k := fun h => hk h.symm
        simp [hk, hk', or3, cmpI]
        by_cases h : k < k'
        · simp [h]
        · have : k' < k := by omega
          simp [h, this]
    · omega
  · rw [if_neg hv, if_neg hv]
def opV (kind a b : Int) : Int := if kind = 8 then a + b else if kind = 9 then a - b else a * b
theorem bool_of_iff {a b : Bool} (h : a = true ↔ b = true) : a = b := Bool.eq_iff_iff.2 h
def logicM (k n : Int) (s : ByteArray) (k' n' : Int) (s' : ByteArray) (d : Int) : (Int × Int × ByteArray) × Int :=
  if (k ≠ 1 ∧ k ≠ 0) ∨ (k' ≠ 1 ∧ k' ≠ 0) then ((0, 0, ⟨#[]⟩), 4)
  else if k = 1 ∧ n = d then ((k, n, s), 0) else if k' = 1 ∧ n' = d then ((k', n', s'), 0)
  else if k = 0 ∨ k' = 0 then ((0, 0, ⟨#[]⟩), 0) else ((k, n, s), 0)
def nov : Int × Int × ByteArray := (0, 0, ⟨#[]⟩)
def eqlM (kind k n : Int) (s : ByteArray) (k' n' : Int) (s' : ByteArray) : (Int × Int × ByteArray) × Int :=
  if k = 0 ∨ k' = 0 then (nov, 0) else if k = k' then ((1, if (vcmp k n s k' n' s' = 0 ∧ kind = 6) ∨ (vcmp k n s k' n' s' < 0 ∧ kind = 7) then 1 else 0, ⟨#[]⟩), 0) else (nov, 4)
def ariM (kind k n : Int) (k' n' : Int) : (Int × Int × ByteArray) × Int :=
  if (k ≠ 2 ∧ k ≠ 0) ∨ (k' ≠ 2 ∧ k' ≠ 0) then (nov, 4) else if k = 0 ∨ k' = 0 then (nov, 0)
  else if fitsI (opV kind n n') = true then ((2, wrap64 (opV kind n n'), ⟨#[]⟩), 0) else (nov, 5)
def twoM (kind k n : Int) (s : ByteArray) (k' n' : Int) (s' : ByteArray) : (Int × Int × ByteArray) × Int :=
  if vboth k n s k' n' s' = 0 then
    if kind = 3 then logicM k n s k' n' s' 0 else if kind = 4 then logicM k n s k' n' s' 1
    else if kind = 6 ∨ kind = 7 then eqlM kind k n s k' n' s'
    else if kind = 8 ∨ kind = 9 ∨ kind = 10 then ariM kind k n k' n'
    else (nov, 2)
  else (nov, vboth k n s k' n' s')
def isYes (d k n : Int) (s : ByteArray) : Bool := k == 1 && (n == d && s.toList == [])
def logicR (k n : Int) (s : ByteArray) (k' n' : Int) (s' : ByteArray) (d : Int) : (Int × Int × ByteArray) × Int :=
  if (k ≠ 0 ∧ k ≠ 1) ∨ (k' ≠ 0 ∧ k' ≠ 1) then (nov, 4)
  else if isYes d k n s = true ∨ isYes d k' n' s' = true then ((1, d, ⟨#[]⟩), 0)
  else if k = 0 ∨ k' = 0 then (nov, 0) else ((1, 1 - d, ⟨#[]⟩), 0)
def eqlR (kind k n : Int) (s : ByteArray) (k' n' : Int) (s' : ByteArray) : (Int × Int × ByteArray) × Int :=
  if k = 0 ∨ k' = 0 then (nov, 0) else if k = k' then
    (if kind = 7 then ((1, if vahead k n s k' n' s' = true then 1 else 0, ⟨#[]⟩), 0) else ((1, if k = k' ∧ n = n' ∧ s.toList = s'.toList then 1 else 0, ⟨#[]⟩), 0)) else (nov, 4)
def twoR (kind k n : Int) (s : ByteArray) (k' n' : Int) (s' : ByteArray) : (Int × Int × ByteArray) × Int :=
  if vboth k n s k' n' s' = 0 then
    if kind = 3 then logicR k n s k' n' s' 0 else if kind = 4 then logicR k n s k' n' s' 1
    else if kind = 6 ∨ kind = 7 then eqlR kind k n s k' n' s'
    else if kind = 8 ∨ kind = 9 ∨ kind = 10 then ariM kind k n k' n'
    else (nov, 2)
  else (nov, vboth k n s k' n' s')
theorem bytes_nil {s : ByteArray} (h : s.toList = []) : s = ⟨#[]⟩ := by
  rw [ByteArray.toList_eq] at h
  cases s with
  | mk d => simp at h; subst h; rfl
theorem truth_cases {k n : Int} {s : ByteArray} (h : vcheck k n s = 0) (hk : k = 0 ∨ k = 1) : s = ⟨#[]⟩ ∧ ((k = 0 ∧ n = 0) ∨ (k = 1 ∧ n = 0) ∨ (k = 1 ∧ n = 1)) := by
  rcases vcheck_ok h with ⟨h1, h2, h3⟩ | ⟨h1, h2, h3, h4⟩ | ⟨h1, h2⟩ | ⟨h1, h2, h3⟩
  · exact ⟨bytes_nil h3, .inl ⟨h1, h2⟩⟩
  · exact ⟨bytes_nil h4, .inr (by omega)⟩
  · omega
  · omega
theorem vboth_ok {k n : Int} {s : ByteArray} {k' n' : Int} {s' : ByteArray} (h : vboth k n s k' n' s' = 0) : vcheck k n s = 0 ∧ vcheck k' n' s' = 0 := by
  unfold vboth at h
  split at h
  · exact ⟨by assumption, h⟩
  · exact absurd h (by assumption)
theorem compareBytes_zero (a b : List UInt8) : Lib.compareBytes a b = 0 ↔ a = b := by
  rw [compareBytes_less]
  constructor
  · intro h
    split at h
    · simp at h
    · split at h
      · simp at h
      · exact bytesLess_total a b (by simpa using ‹¬ Op.bytesLess a b = true›) (by simpa using ‹¬ Op.bytesLess b a = true›)
  · rintro rfl
    simp [bytesLess_irrefl]
theorem cmpI_zero (a b : Int) : cmpI a b = 0 ↔ a = b := by
  unfold cmpI
  repeat' split <;> omega
theorem vcmp_zero (k n : Int) (s : ByteArray) (n' : Int) (s' : ByteArray) : vcmp k n s k n' s' = 0 ↔ n = n' ∧ s.toList = s'.toList := by
  unfold vcmp or3
  rw [if_pos ((cmpI_zero k k).2 rfl)]
  by_cases h : cmpI n n' = 0
  · rw [if_pos h, compareBytes_zero, ← ByteArray.toList_eq, ← ByteArray.toList_eq]
    have := (cmpI_zero n n').1 h
    simp [this]
  · rw [if_neg h]
    have : ¬ n = n' := fun e => h ((cmpI_zero n n').2 e)
    simp [this, h]
theorem vcmp_neg {k n : Int} {s : ByteArray} {k' n' : Int} {s' : ByteArray} (hv : vboth k n s k' n' s' = 0) : vcmp k n s k' n' s' < 0 ↔ vahead k n s k' n' s' = true := by
  have h := congrArg (·.1) (cmp_same k n s k' n' s')
  simp only [cmpM, cmpR, if_pos hv] at h
  rw [h]
  split
  · rename_i h; simp [h]
  · rename_i h
    simp only [h]
    split <;> simp
theorem logic_same {k n : Int} {s : ByteArray} {k' n' : Int} {s' : ByteArray} (hv : vboth k n s k' n' s' = 0) (d : Int) (hd : d = 0 ∨ d = 1) : logicM k n s k' n' s' d = logicR k n s k' n' s' d := by
  obtain ⟨v1, v2⟩ := vboth_ok hv
  by_cases hk : k = 0 ∨ k = 1
  · obtain ⟨rfl, hc⟩ := truth_cases v1 hk
    by_cases hk' : k' = 0 ∨ k' = 1
    · obtain ⟨rfl, hc'⟩ := truth_cases v2 hk'
      clear hv v1 v2 hk hk'
      rcases hd with rfl | rfl <;> rcases hc with ⟨rfl, rfl⟩ | ⟨rfl, rfl⟩ | ⟨rfl, rfl⟩ <;> rcases hc' with ⟨rfl, rfl⟩ | ⟨rfl, rfl⟩ | ⟨rfl, rfl⟩ <;> simp [logicM, logicR, isYes, nov]
    · have h0 : k' ≠ 0 := fun h => hk' (.inl h)
      have h1 : k' ≠ 1 := fun h => hk' (.inr h)
      simp [logicM, logicR, h0, h1, nov]
  · have h0 : k ≠ 0 := fun h => hk (.inl h)
    have h1 : k ≠ 1 := fun h => hk (.inr h)
    simp [logicM, logicR, h0, h1, nov]
theorem two_same (kind k n : Int) (s : ByteArray) (k' n' : Int) (s' : ByteArray) : twoM kind k n s k' n' s' = twoR kind k n s k' n' s' := by
  unfold twoM twoR
  by_cases hv : vboth k n s k' n' s' = 0
  · rw [if_pos hv, if_pos hv]
    by_cases h3 : kind = 3
    · rw [if_pos h3, if_pos h3]; exact logic_same hv 0 (.inl rfl)
    rw [if_neg h3, if_neg h3]
    by_cases h4 : kind = 4
    · rw [if_pos h4, if_pos h4]; exact logic_same hv 1 (.inr rfl)
    rw [if_neg h4, if_neg h4]
    by_cases h67 : kind = 6 ∨ kind = 7
    · rw [if_pos h67, if_pos h67]
      unfold eqlM eqlR
      split
      · rfl
      split
      · rename_i hk
        have e1 := vcmp_neg hv
        subst hk
        have e2 := vcmp_zero k n s n' s'
        rcases h67 with rfl | rfl
        · simp [e2]
        · simp [e1]
      · rfl
    · rw [if_neg h67, if_neg h67]
  · rw [if_neg hv, if_neg hv]
end Go.Proofs.YtoecmmpjndcolaaGreatDoor
/- The codec: values as bytes: models and plain laws. -/
namespace Go.AM
open Go Go.RowKit
open Go.Proofs.YtoecmmpjndcolaaGreatDoor (vcheck)
/-- The eight bytes of a number below 2^64, the highest one first. -/
def be8 (u : Nat) : List UInt8 := [56, 48, 40, 32, 24, 16, 8, 0].map fun s => UInt8.ofNat (u / 2 ^ s % 256)
/-- A number of 64 bits, moved up so that it is not below nought. -/
def up63 (n : Int) : Nat := (n + 9223372036854775808).toNat
/-- A text in which a byte gives way to bytes. -/
def repM (c : UInt8) (new : List UInt8) : List UInt8 → List UInt8
  | [] => []
  | x :: r => if x = c then new ++ repM c new r else x :: repM c new r
def escM (l : List UInt8) : List UInt8 := repM 0 [0, 255] l
def encV (v : V) : List UInt8 := UInt8.ofNat v.k.toNat :: (if v.k = 1 then [UInt8.ofNat v.n.toNat] else if v.k = 2 then be8 (up63 v.n) else if v.k = 3 then escM v.s.data.toList ++ [0, 0] else [])
/-- Behind what stands already. -/
def encFrom : List UInt8 → List V → Except Int (List UInt8)
  | b, [] => .ok b
  | b, v :: r => if vcheck v.k v.n v.s ≠ 0 then .error (vcheck v.k v.n v.s) else encFrom (b ++ encV v) r
def encM (l : List V) : Except Int (List UInt8) := if 6 < l.length then .error 1 else match encFrom [] l with
  | .error e => .error e
  | .ok b => if 100 < b.length then .error 5 else .ok b
theorem be8_len (u : Nat) : (be8 u).length = 8 := rfl
theorem rep_len (c : UInt8) (new : List UInt8) (hn : 1 ≤ new.length) : ∀ l : List UInt8, (repM c new l).length ≤ new.length * l.length
  | [] => by simp [repM]
  | x :: r => by
    have := rep_len c new hn r
    rw [repM, List.length_cons, Nat.mul_add]; split
    · rw [List.length_append]; omega
    · rw [List.length_cons]; omega
theorem esc_len (l : List UInt8) : (escM l).length ≤ 2 * l.length := rep_len 0 [0, 255] (by simp) l
theorem up63_lt {n : Int} (h : inI n) : up63 n < 18446744073709551616 := by
  obtain ⟨h1, h2⟩ := h; unfold up63; omega
theorem encV_len {v : V} (h : vcheck v.k v.n v.s = 0) : (encV v).length ≤ 43 := by
  unfold vcheck at h
  have hs := esc_len v.s.data.toList
  unfold encV
  simp only [List.length_cons]
  split
  · rw [List.length_singleton]; omega
  split
  · rw [be8_len]; omega
  split
  · rename_i h3
    have : v.s.size ≤ 20 := by
      rw [h3, if_neg (by decide), if_neg (by decide), if_neg (by decide), if_pos rfl] at h
      split at h
      · cases h
      split at h
      · cases h
      · omega
    have e : v.s.data.toList.length = v.s.size := by rw [Array.length_toList]; rfl
    simp only [List.length_append, List.length_cons, List.length_nil]; omega
  · simp
theorem encFrom_len : ∀ {b : List UInt8} {l : List V} {x : List UInt8}, encFrom b l = .ok x → b.length ≤ x.length ∧ x.length ≤ b.length + 43 * l.length
  | b, [], x, h => by cases h; simp
  | b, v :: r, x, h => by
    rw [encFrom] at h
    split at h
    · cases h
    rename_i hv
    have hv : vcheck v.k v.n v.s = 0 := by simpa using hv
    have := encFrom_len h
    have h3 := encV_len hv
    simp only [List.length_append, List.length_cons] at this ⊢
    omega
theorem encFrom_err : ∀ {b : List UInt8} {l : List V} {e : Int}, encFrom b l = .error e → e ≠ 0
  | b, [], e, h => by cases h
  | b, v :: r, e, h => by
    rw [encFrom] at h
    split at h
    · cases h; assumption
    · exact encFrom_err h
theorem encM_err {l : List V} {e : Int} (h : encM l = .error e) : e ≠ 0 := by
  unfold encM at h
  split at h
  · cases h; decide
  split at h
  · cases h; exact encFrom_err (by assumption)
  split at h
  · cases h; decide
  · cases h
theorem encM_len {l : List V} {b : List UInt8} (h : encM l = .ok b) : b.length ≤ 100 := by
  unfold encM at h
  split at h
  · cases h
  split at h
  · cases h
  split at h
  · cases h
  · cases h; omega
theorem xor63u (n : Nat) (hn : n < 18446744073709551616) : (BitVec.ofInt 64 (n : Int) ^^^ BitVec.ofInt 64 9223372036854775808).toNat = if n < 9223372036854775808 then n + 9223372036854775808 else n - 9223372036854775808 := by
  have e : (9223372036854775808 : Int) = ((9223372036854775808 : Nat) : Int) := rfl
  rw [e, BitVec.ofInt_natCast, BitVec.ofInt_natCast, BitVec.toNat_xor, BitVec.toNat_ofNat, BitVec.toNat_ofNat, Nat.mod_eq_of_lt (by omega), Nat.mod_eq_of_lt (by omega)]
  have key : ∀ m : Nat, m < 9223372036854775808 → m ^^^ 9223372036854775808 = m + 9223372036854775808 := by
    intro m hm
    apply Nat.eq_of_testBit_eq
    intro i
    have e2 : (9223372036854775808 : Nat) = 2 ^ 63 := rfl
    rw [Nat.testBit_xor, e2, Nat.add_comm, Nat.testBit_two_pow]
    by_cases hi : i = 63
    · subst hi
      rw [Nat.testBit_two_pow_add_eq, Nat.testBit_lt_two_pow (by omega)]; rfl
    · by_cases hi2 : i < 63
      · rw [Nat.testBit_two_pow_add_gt (by omega)]; have : ¬ 63 = i := by omega
        simp [this]
      · have h1 : m.testBit i = false := Nat.testBit_lt_two_pow (Nat.lt_of_lt_of_le hm (by rw [e2]; exact Nat.pow_le_pow_right (by omega) (by omega)))
        have h2 : (2 ^ 63 + m).testBit i = false := Nat.testBit_lt_two_pow (Nat.lt_of_lt_of_le (by omega : 2 ^ 63 + m < 2 ^ 64) (Nat.pow_le_pow_right (by omega) (by omega)))
        have : ¬ 63 = i := by omega
        rw [h1, h2]; simp [this]
  split
  · rename_i h; exact key n h
  · rename_i h
    have := key (n - 9223372036854775808) (by omega)
    rw [Nat.sub_add_cancel (by omega)] at this
    have h2 := congrArg (· ^^^ 9223372036854775808) this
    simp only [Nat.xor_assoc, Nat.xor_self, Nat.xor_zero] at h2
    exact h2.symm
theorem u64_neg (n : Int) (h : -9223372036854775808 ≤ n) (h' : n < 0) : IntKind.u64.wrap n = n + 18446744073709551616 := by
  have : IntKind.u64.wrap n = n % 18446744073709551616 := rfl
  omega
theorem xorU {n : Int} (h : inI n) : bXor .u64 (IntKind.u64.wrap n) 9223372036854775808 = ((up63 n : Nat) : Int) := by
  obtain ⟨h1, h2⟩ := h
  have e : ∃ m : Nat, m < 18446744073709551616 ∧ IntKind.u64.wrap n = (m : Int) ∧ (up63 n : Int) = if m < 9223372036854775808 then (m : Int) + 9223372036854775808 else (m : Int) - 9223372036854775808 := by
    by_cases hn : n < 0
    · rw [u64_neg n h1 hn]
      refine ⟨(n + 18446744073709551616).toNat, by omega, by omega, ?_⟩
      unfold up63; rw [if_neg (by omega)]; omega
    · rw [Go.IntWalk.u64_in n (by omega)]
      refine ⟨n.toNat, by omega, by omega, ?_⟩
      unfold up63; rw [if_pos (by omega)]; omega
  obtain ⟨m, hm, e1, e2⟩ := e
  rw [e1]
  show IntKind.u64.wrap (((BitVec.ofInt 64 (m : Int) ^^^ BitVec.ofInt 64 9223372036854775808).toNat : Nat) : Int) = _
  rw [xor63u m hm, e2]
  split
  · rw [Go.IntWalk.u64_in _ (by omega)]; omega
  · rw [Go.IntWalk.u64_in _ (by omega)]; omega
/-- One of the eight bytes. -/
theorem be8_get (u : Nat) (j : Nat) (hj : j < 8) : (be8 u)[j]? = some (UInt8.ofNat (u / 2 ^ (56 - 8 * j) % 256)) := by
  match j, hj with
  | 0, _ => rfl
  | 1, _ => rfl
  | 2, _ => rfl
  | 3, _ => rfl
  | 4, _ => rfl
  | 5, _ => rfl
  | 6, _ => rfl
  | 7, _ => rfl
theorem u8_cast (m : Nat) : ((UInt8.ofNat (m % 256)).toNat : Int) = ((m % 256 : Nat) : Int) := by
  simp
theorem u8_wrap (n : Int) : IntKind.u8.wrap n = n % 256 := by
  simp only [IntKind.wrap, IntKind.signed, IntKind.bits]; rfl
theorem shr_byte (u : Nat) (j : Nat) (hj : j < 8) : IntKind.u8.wrap (shrI .u64 (u : Int) (56 - 8 * (j : Int))) = ((UInt8.ofNat (u / 2 ^ (56 - 8 * j) % 256)).toNat : Int) := by
  rw [u8_cast, u8_wrap]
  have e : (56 - 8 * (j : Int)).toNat = 56 - 8 * j := by omega
  have hm : min (56 - 8 * j) 64 = 56 - 8 * j := by omega
  have : shrI .u64 (u : Int) (56 - 8 * (j : Int)) = ((u / 2 ^ (56 - 8 * j) : Nat) : Int) := by
    unfold shrI
    rw [e]
    show (u : Int).fdiv (2 ^ (min (56 - 8 * j) 64)) = _
    rw [hm, Int.natCast_ediv, Int.fdiv_eq_ediv_of_nonneg _ (by exact Int.le_of_lt (Int.pow_pos (by decide))), Int.natCast_pow]
    rfl
  rw [this]; omega
theorem index_one (c x : UInt8) (l : List UInt8) : Lib.index (x :: l) [c] = if x = c then 0 else if Lib.index l [c] = -1 then -1 else Lib.index l [c] + 1 := by
  rw [Lib.index]
  by_cases h : x = c
  · simp [h]
  · have h' : ¬ c = x := fun e => h e.symm
    simp [h, h']
/-- strings.ReplaceAll of one byte. -/
theorem replaceK_one (c : UInt8) (new : List UInt8) : ∀ l : List UInt8, Lib.replaceK [c] new (Lib.count l [c]) l = repM c new l
  | [] => by rw [Lib.count_miss (by rfl)]; rfl
  | x :: l => by
    have ih := replaceK_one c new l
    have hi := index_one c x l
    by_cases h : x = c
    · rw [if_pos h] at hi
      rw [Lib.count_hit (i := 0) (by simp) hi, Nat.add_comm 1, Lib.replaceK_hit _ _ _ _ 0 hi, repM, if_pos h]
      simpa using ih
    · rw [if_neg h] at hi
      rw [repM, if_neg h, ← ih]
      by_cases h1 : Lib.index l [c] = -1
      · rw [if_pos h1] at hi
        rw [Lib.count_miss hi, Lib.count_miss h1]; rfl
      · rw [if_neg h1] at hi
        have hg := Lib.index_ge l [c]
        obtain ⟨i, e⟩ : ∃ i : Nat, Lib.index l [c] = i := ⟨(Lib.index l [c]).toNat, by omega⟩
        rw [e] at hi
        have hi : Lib.index (x :: l) [c] = ((i + 1 : Nat) : Int) := by omega
        rw [Lib.count_hit (by simp) hi, Lib.count_hit (by simp) e, Nat.add_comm 1, Nat.add_comm 1, Lib.replaceK_hit _ _ _ _ _ hi, Lib.replaceK_hit _ _ _ _ _ e]
        simp [Nat.add_right_comm i 1 1]
theorem replaceAll_one (c : UInt8) (new l : List UInt8) (h : ([c] == new) = false) : Lib.replaceAll l [c] new = repM c new l := by
  rw [Lib.replaceAll, Lib.replace, if_neg (by rw [h]; simp)]
  have : Lib.replaceNum l [c] (-1) = Lib.count l [c] := by rw [Lib.replaceNum, if_pos (.inl (by omega))]
  rw [this, replaceK_one]
end Go.AM
/- Bounds: what a part says of the key; closures; models. -/
namespace Go.AM
open Go Go.RowKit
open Go.Proofs.YtoecmmpjndcolaaGreatDoor (OP nameM litM exprM exprFrom stepM popsM vcheck)
attribute [local irreducible] AWP retA
def isCol (key : ByteArray) (o : OP) : Bool := o.k == 2 && o.nm.toList == key.toList
def isLit (o : OP) : Bool := o.k == 1 && o.vk != 0
def valO (o : OP) : V := ⟨o.vk, o.vn, o.vs⟩
/-- What a part says of the key, without and with a Not behind it. -/
def sayM (key : ByteArray) (nt : Bool) : List OP → Option (Int × V)
  | [a, b, c] => if (isCol key a && b.k == 1) = true then (if b.vk = 0 then none else if c.k = 6 ∧ nt = false then some (0, valO b) else if c.k ≠ 7 then none else if nt = true then some (-1, valO b) else some (1, valO b))
    else if (isCol key b && a.k == 1) = true then (if a.vk = 0 then none else if c.k = 6 ∧ nt = false then some (0, valO a) else if c.k ≠ 7 then none else if nt = true then some (1, valO a) else some (-1, valO a))
    else none
  | _ => none
def sideM (key : ByteArray) (ops : List OP) : Option (Int × V) := match ops.getLast? with
  | none => none
  | some o => if o.k = 5 then sayM key true ops.dropLast else sayM key false ops
def updM (key : ByteArray) (st : List UInt8 × List UInt8) (ops : List OP) : List UInt8 × List UInt8 := match sideM key ops with
  | none => st
  | some (w, v) => (if w ≤ 0 ∧ Op.bytesLess st.1 (encV v) = true then encV v else st.1, if 0 ≤ w ∧ (st.2 = [] ∨ Op.bytesLess (encV v) st.2 = true) then encV v else st.2)
/-- The parts of Ands. -/
def partsT : RT OP → List (List OP)
  | .b o p q => if o.k = 3 then partsT p ++ partsT q else [(RT.b o p q).flat]
  | t => [t.flat]
def boundT (key : ByteArray) (st : List UInt8 × List UInt8) (tr : RT OP) : List UInt8 × List UInt8 := (partsT tr).foldl (updM key) st
theorem cmp_gt (a b : List UInt8) : decide (Lib.compareBytes a b > 0) = Op.bytesLess b a := by
  rw [Go.Proofs.YtoecmmpjndcolaaGreatDoor.compareBytes_less]
  by_cases h : Op.bytesLess a b = true
  · rw [if_pos h, Go.Proofs.YtoecmmpjndcolaaGreatDoor.bytesLess_asymm _ _ h]; rfl
  · rw [if_neg h]
    by_cases h2 : Op.bytesLess b a = true
    · rw [if_pos h2, h2]; rfl
    · rw [if_neg h2]; simp at h2; rw [h2]; rfl
theorem cmp_lt (a b : List UInt8) : decide (Lib.compareBytes a b < 0) = Op.bytesLess a b := by
  rw [Go.Proofs.YtoecmmpjndcolaaGreatDoor.compareBytes_less]
  by_cases h : Op.bytesLess a b = true
  · rw [if_pos h, h]; rfl
  · rw [if_neg h]
    simp at h; rw [h]
    split <;> rfl
set_option maxRecDepth 100000 in
theorem indexFuncO_con (G : List (Nat × List Value)) (t : Bool) (l : List OP) (g : Nat) (caps : List AV) (p : OP → Bool) (hl : l.length ≤ 1048576) (hcap : ∀ st, borL st caps = some caps) (hren : ∀ f, renL f caps = caps) (hf : ∀ G x, Con Go.Proofs.Tryz.prog G g (.agg (eO x) :: caps) [] 0 (Is (.r (.bool (p x))) [] 0) No) :
    Con Go.Proofs.Tryz.prog G 46 [.ro t 5 (l.map eO), .fn g caps] [] 0 (Is (.r (.int .i64 (idxM p l 0))) [] 0) No := by
  refine con_of_awp Go.Proofs.Tryz.func46 rfl (by kernel_rfl) (of_decide_eq_true (by kernel_rfl)) ?_; intro E hG hE; subst hG; simp only [ent]
  (repeat' (first | refine awp_seq ?_ | refine awp_block ?_ | refine awp_skip ?_ | refine awp_exit ?_ | ((first | refine rR (fun K kp hK hkp => ?_) | refine iG ?_); simp (implicitDefEqProofs := false) (maxSteps := 2000000) (disch := omega) only [go_sem]; (repeat' (first | (refine hK _ ?_; clear hK hkp kp K) | (with_reducible refine And.intro ?_ ?_) | omega))) | ((first | refine aG (fun h => ?_) (fun h => ?_) | refine aD (fun h => ?_) (fun h => ?_) | refine aX (fun h => ?_) (fun h => ?_)) <;> simp only [h]) | refine awp_cond_t rfl ?_ | refine awp_cond_f rfl ?_ | ((refine awp_cond rfl (fun h => ?_) (fun h => ?_) <;> try simp only [ifs] at h) <;> (try (exfalso; omega))) | refine awp_ret ?_))
  refine awp_loop (fun k : Nat => ⟨[(8, .r (.int .i64 k)), (7, .r (.int .i64 l.length)), (0, .ro t 5 (l.map eO)), (1, .fn g caps)], [], 0⟩) (fun k => k ≤ l.length ∧ idxM p (l.drop k) k = idxM p l 0) (fun k => l.length - k) 0 ?_ ?_ ?_
  · simp
  · (refine emb [] ?_ ?_ rfl ?_ ?_ ?_ ?_ <;> simp [okM, okO, lk, ren, renL, renNd, by_, hE, hren] <;> (try omega))
  intro k ⟨hk, hno⟩
  by_cases hk' : k < l.length
  · obtain ⟨x, hx⟩ : ∃ x, l[k]? = some x := ⟨l[k], by simp [hk']⟩
    have hd := drop_at hx
    rw [hd, idxM] at hno
    have hfx := hf E.G x
    simp only [eO] at hfx
    (repeat' (first | refine awp_seq ?_ | refine awp_block ?_ | refine awp_skip ?_ | refine awp_exit ?_ | ((first | refine rR (fun K kp hK hkp => ?_) | refine cR hfx ?_ | refine iG ?_); simp (implicitDefEqProofs := false) (maxSteps := 2000000) (disch := omega) only [go_sem, hx, eO, hcap]; (repeat' (first | (refine hK _ ?_; clear hK hkp kp K) | (with_reducible refine And.intro ?_ ?_) | omega))) | ((first | refine aG (fun h => ?_) (fun h => ?_) | refine aD (fun h => ?_) (fun h => ?_) | refine aX (fun h => ?_) (fun h => ?_)) <;> simp only [h]) | refine awp_cond_t rfl ?_ | refine awp_cond_f rfl ?_ | ((refine awp_cond rfl (fun h => ?_) (fun h => ?_) <;> try simp only [ifs] at h) <;> (try (exfalso; omega))) | refine awp_ret ?_))
    · (refine retA_is (by (simp (implicitDefEqProofs := false) (maxSteps := 2000000) (disch := omega) only [go_sem, Go.Proofs.Tryz.results46]); rfl) ?_; refine eN hE ?_; simp [oneA, ren, renL])
      rw [← hno, if_pos h]
    · ((first | (refine nextB (k + 1) ?_ ?_ ?_) | (refine nextA (k + 1) ?_ ?_ ?_)); rotate_left; (· (try dsimp only); (first | omega | (simp only [List.length_drop, List.length_cons, List.length_append]; omega) | (simp; done) | (simp; omega))); (· (refine emb [] ?_ ?_ rfl ?_ ?_ ?_ ?_ <;> simp [okM, okO, lk, ren, renL, renNd, by_, hE, hren] <;> (try omega))))
      exact ⟨by omega, by rw [← hno, if_neg (by simp [h])]⟩
  · (repeat' (first | refine awp_seq ?_ | refine awp_block ?_ | refine awp_skip ?_ | refine awp_exit ?_ | ((first | refine rR (fun K kp hK hkp => ?_) | refine iG ?_); simp (implicitDefEqProofs := false) (maxSteps := 2000000) (disch := omega) only [go_sem]; (repeat' (first | (refine hK _ ?_; clear hK hkp kp K) | (with_reducible refine And.intro ?_ ?_) | omega))) | ((first | refine aG (fun h => ?_) (fun h => ?_) | refine aD (fun h => ?_) (fun h => ?_) | refine aX (fun h => ?_) (fun h => ?_)) <;> simp only [h]) | refine awp_cond_t rfl ?_ | refine awp_cond_f rfl ?_ | ((refine awp_cond rfl (fun h => ?_) (fun h => ?_) <;> try simp only [ifs] at h) <;> (try (exfalso; omega))) | refine awp_ret ?_))
    (refine retA_is (by (simp (implicitDefEqProofs := false) (maxSteps := 2000000) (disch := omega) only [go_sem, Go.Proofs.Tryz.results46]); rfl) ?_; refine eN hE ?_; simp [oneA, ren, renL])
    rw [← hno, List.drop_of_length_le (by omega)]; rfl
set_option maxRecDepth 100000 in
theorem narrow1_con (u : Bool) (key : ByteArray) (G : List (Nat × List Value)) (x : OP) : Con Go.Proofs.Tryz.prog G 47 [.agg (eO x), .re u [.r (.string key)] 0] [] 0 (Is (.r (.bool (isCol key x))) [] 0) No := by
  refine con_of_awp Go.Proofs.Tryz.func47 rfl (by kernel_rfl) (of_decide_eq_true (by kernel_rfl)) ?_; intro E hG hE; subst hG; simp only [ent]
  cases h2 : (x.k == 2)
  all_goals
    (repeat' (first | refine awp_seq ?_ | refine awp_block ?_ | refine awp_skip ?_ | refine awp_exit ?_ | ((first | refine rR (fun K kp hK hkp => ?_) | refine iG ?_); simp (implicitDefEqProofs := false) (maxSteps := 2000000) (disch := omega) only [go_sem, eO, h2]; (repeat' (first | (refine hK _ ?_; clear hK hkp kp K) | (with_reducible refine And.intro ?_ ?_) | omega))) | ((first | refine aG (fun h => ?_) (fun h => ?_) | refine aD (fun h => ?_) (fun h => ?_) | refine aX (fun h => ?_) (fun h => ?_)) <;> simp only [h]) | refine awp_cond_t rfl ?_ | refine awp_cond_f rfl ?_ | ((refine awp_cond rfl (fun h => ?_) (fun h => ?_) <;> try simp only [ifs] at h) <;> (try (exfalso; omega))) | refine awp_ret ?_))
    (refine retA_is (by (simp (implicitDefEqProofs := false) (maxSteps := 2000000) (disch := omega) only [go_sem, Go.Proofs.Tryz.results47, isCol, h2]); rfl) ?_; refine eN hE ?_; simp [oneA, ren, renL, isCol, h2])
set_option maxRecDepth 100000 in
theorem narrow2_con (G : List (Nat × List Value)) (x : OP) : Con Go.Proofs.Tryz.prog G 48 [.agg (eO x)] [] 0 (Is (.r (.bool (isLit x))) [] 0) No := by
  refine con_of_awp Go.Proofs.Tryz.func48 rfl (by kernel_rfl) (of_decide_eq_true (by kernel_rfl)) ?_; intro E hG hE; subst hG; simp only [ent]
  cases h2 : (x.k == 1)
  all_goals
    (repeat' (first | refine awp_seq ?_ | refine awp_block ?_ | refine awp_skip ?_ | refine awp_exit ?_ | ((first | refine rR (fun K kp hK hkp => ?_) | refine iG ?_); simp (implicitDefEqProofs := false) (maxSteps := 2000000) (disch := omega) only [go_sem, eO, h2]; (repeat' (first | (refine hK _ ?_; clear hK hkp kp K) | (with_reducible refine And.intro ?_ ?_) | omega))) | ((first | refine aG (fun h => ?_) (fun h => ?_) | refine aD (fun h => ?_) (fun h => ?_) | refine aX (fun h => ?_) (fun h => ?_)) <;> simp only [h]) | refine awp_cond_t rfl ?_ | refine awp_cond_f rfl ?_ | ((refine awp_cond rfl (fun h => ?_) (fun h => ?_) <;> try simp only [ifs] at h) <;> (try (exfalso; omega))) | refine awp_ret ?_))
    (refine retA_is (by (simp (implicitDefEqProofs := false) (maxSteps := 2000000) (disch := omega) only [go_sem, Go.Proofs.Tryz.results48, isLit, h2]); rfl) ?_; refine eN hE ?_; simp [oneA, ren, renL, isLit, h2])
end Go.AM
