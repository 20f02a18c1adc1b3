/- A region that draws its order, cut in two: a head whose loads are taken first under a condition S on the world, and a tail that stands behind all of the head in one forced order: the tail is walked as a list, and S is not asked there. -/
import Derived.Test.YtkehmidldcggcaaDoorProg
import Derived.StillTail
import Derived.OrdersHeld
import Derived.RegionTactic
import Derived.WalkKit
set_option linter.unusedSimpArgs false
set_option linter.unusedVariables false
namespace Go.Proofs.YtkehmidldcggcaaDoor
open Go.RowKit
section
variable {P : Program} {ops : Array Oper} {Q : Exit → Act → World → Prop} {S : World → Prop} {n : Nat} {L : Array Bool → Act → World → Prop}
/-- Whatever order is picked, f operations of the head yet to come: S behind each, and L at the end. -/
def anyT (P : Program) (ops : Array Oper) (Q : Exit → Act → World → Prop) (S : World → Prop) (n : Nat) (L : Array Bool → Act → World → Prop) : Nat → Array Bool → Act → World → Prop
  | 0, s, a, w => L s a w
  | f + 1, s, a, w => Region.ready .any ops s ≠ [] ∧ ∀ i ∈ Region.ready .any ops s, i < n ∧ wpOp P ops Q i (fun a' w' => S w' ∧ anyT P ops Q S n L f (s.setIfInBounds i true) a' w') a w
theorem anyT_out {g : Nat} (hL : ∀ s a w, L s a w → wpAny P .any ops Q g s a w) : ∀ (f : Nat) (s : Array Bool) (a : Act) (w : World), anyT P ops Q S n L f s a w → wpAny P .any ops Q (f + g) s a w
  | 0, s, a, w, h => by rw [Nat.zero_add]; exact hL _ _ _ h
  | f + 1, s, a, w, h => by
    rw [show f + 1 + g = (f + g) + 1 by omega]
    exact ⟨fun h0 => absurd h0 h.1, fun i hi => wpOp_mono (fun a' w' h' => anyT_out hL f _ a' w' h'.2) (h.2 i hi).2⟩
/-- Number i may be taken first: it yields its value in every world that meets S. -/
theorem anyT_first {i : Nat} {oi : Oper} {v : Value} (hi : ops[i]? = some oi) (hsel : ∀ (j : Nat) (o : Oper) cs b, ops[j]? = some o → o.op ≠ .select cs b)
    (hQ : ∀ c a w, Q (.panic c) (a.put oi.dst v) w → Q (.panic c) a w) (hs : Region.sinkB .any ops n = true) (hc : Region.chainB .any ops n = true) (hn : n < ops.size) (hin : i < n)
    (hdone : ∀ s a w, L s a w → ∀ j ∈ Region.ready .any ops s, n ≤ j) : ∀ (f : Nat) (s : Array Bool) (a : Act) (w : World), HeadInv .any ops n s →
      (∀ j oj, ops[j]? = some oj → j ≠ i → s.getD j true = false → (∀ e ∈ oj.after, Region.binds .any e = true → e.on ≠ i) → oi.apart ops oj = true) →
      i ∈ Region.ready .any ops s → YieldsIf P ops S oi v a → S w → anyT P ops Q S n L f (s.setIfInBounds i true) (a.put oi.dst v) w → anyT P ops Q S n L (f + 1) s a w := by
  intro f
  induction f with
  | zero =>
    intro s a w inv _ hr hy hS H
    refine ⟨fun h => (by rw [h] at hr; cases hr), fun j hj => ?_⟩
    have hjn : j < n := by
      by_cases h : j < n
      · exact h
      · exact absurd hj (tail_waits hs hc hn inv _ i rfl hin (mem_ready.1 hr).1 j (by omega))
    by_cases hji : j = i
    · subst hji; exact ⟨hjn, hy.wpOp hi hS ⟨hS, H⟩⟩
    · have := hdone _ _ _ H j (ready_mono hj hji)
      omega
  | succ f ih =>
    intro s a w inv hfree hr hy hS H
    refine ⟨fun h => (by rw [h] at hr; cases hr), fun j hj => ?_⟩
    have hjn : j < n := by
      by_cases h : j < n
      · exact h
      · exact absurd hj (tail_waits hs hc hn inv _ i rfl hin (mem_ready.1 hr).1 j (by omega))
    refine ⟨hjn, ?_⟩
    by_cases hji : j = i
    · subst hji; exact hy.wpOp hi hS ⟨hS, H⟩
    · have h1 := (H.2 j (ready_mono hj hji)).2
      obtain ⟨hjun, oj, hoj, hall⟩ := mem_ready.1 hj
      have hiun := (mem_ready.1 hr).1
      have hnot : ∀ e ∈ oj.after, Region.binds .any e = true → e.on ≠ i := fun e he hb heq => by
        have h2 := hall e he hb
        rw [heq, getD_both hiun] at h2
        cases h2
      have h2 := wpOp_putIf hoj (hfree j oj hoj hji hjun hnot) (fun cs b => hsel i oi cs b hi) (fun cs b => hsel j oj cs b hoj) hQ hy h1
      refine wpOp_mono (fun a' w' h3 => ⟨h3.2.1, ih _ a' w' (inv.set hj hjn) (fun k ok hk hki hun hno => hfree k ok hk hki ?_ hno) (ready_mono hr (Ne.symm hji)) h3.1 h3.2.1 ?_⟩) h2
      · by_cases hjk : j = k
        · subst hjk; exact hjun
        · rwa [getD_set_ne true hjk] at hun
      · rw [Array.setIfInBounds_comm _ _ hji]
        exact h3.2.2
/-- The tail, as a list. -/
def tailL (P : Program) (ops : Array Oper) (Q : Exit → Act → World → Prop) (n : Nat) (s : Array Bool) (a : Act) (w : World) : Prop :=
  Region.seqB .any ops (ops.size - n) n s = true ∧ wpList P ops Q (ops.toList.drop n) a w
theorem anyT_take {i : Nat} {oi : Oper} {v : Value} {f : Nat} {s : Array Bool} {a : Act} {w : World} (hi : ops[i]? = some oi) (hB : (Region.noSelect ops && Region.sinkB .any ops n && Region.chainB .any ops n && decide (n < ops.size) && decide (i < n)) = true)
    (hf : Region.free .any ops s i = true) (hr : (Region.ready .any ops s).contains i = true) (hQ : ∀ c a w, Q (.panic c) (a.put oi.dst v) w → Q (.panic c) a w) (hy : YieldsIf P ops S oi v a) (hS : S w) (inv : HeadInv .any ops n s)
    (h : HeadInv .any ops n (s.setIfInBounds i true) → anyT P ops Q S n (tailL P ops Q n) f (s.setIfInBounds i true) (a.put oi.dst v) w) : anyT P ops Q S n (tailL P ops Q n) (f + 1) s a w := by
  simp only [Bool.and_eq_true, decide_eq_true_eq] at hB
  obtain ⟨⟨⟨⟨h1, h2⟩, h3⟩, h4⟩, h5⟩ := hB
  have hr' : i ∈ Region.ready .any ops s := by simpa using hr
  exact anyT_first hi (Region.noSelect_spec h1) hQ h2 h3 h4 h5 (fun s a w hL => seqB_ready hL.1) f s a w inv (Region.free_spec hi hf) hr' hy hS (h (inv.set hr' h5))
/-- One operation alone may come up: it is carried out. -/
theorem anyT_step {i : Nat} {o : Oper} {f : Nat} {s : Array Bool} {a : Act} {w : World} (ho : ops[i]? = some o) (hr : Region.ready .any ops s = [i]) (hin : i < n) (inv : HeadInv .any ops n s)
    (h : ∀ K : Act → World → Prop, (∀ a' w', S w' → (HeadInv .any ops n (s.setIfInBounds i true) → anyT P ops Q S n (tailL P ops Q n) f (s.setIfInBounds i true) a' w') → K a' w') →
      if Region.wanted o (yielded ops a.tmps) = true then Oper.wp P o a w K Q else K (a.put o.dst undef) w) : anyT P ops Q S n (tailL P ops Q n) (f + 1) s a w := by
  refine ⟨fun h0 => (by rw [h0] at hr; cases hr), fun j hj => ?_⟩
  have inv' := inv.set (i := i) (by rw [hr]; simp) hin
  rw [hr] at hj
  obtain rfl : j = i := by simpa using hj
  exact ⟨hin, wpOp_step ho fun K' hK => h K' fun a' w' hS hT => hK a' w' ⟨hS, hT inv'⟩⟩
theorem anyT_end {s : Array Bool} {a : Act} {w : World} (hB : Region.seqB .any ops (ops.size - n) n s = true) (h : wpList P ops Q (ops.toList.drop n) a w) : anyT P ops Q S n (tailL P ops Q n) 0 s a w := ⟨hB, h⟩
/-- The beginning. -/
theorem wp_cut {id : Nat} {a : Act} {w : World} (S : World → Prop) (n : Nat) (hm : P.follows .mixedOrders = true) (hnb : Nat.ble n ops.size = true)
    (h : HeadInv .any ops n (Array.replicate ops.size false) → anyT P ops Q S n (tailL P ops Q n) n (Array.replicate ops.size false) a w.drew) : (Code.region id ops true).wp P Q a w := by
  have hn : n ≤ ops.size := Nat.le_of_ble_eq_true hnb
  have inv0 : HeadInv .any ops n (Array.replicate ops.size false) :=
    ⟨by simp, fun j oj _ hl => (by rw [getD_replicate_false] at hl; cases hl), fun t _ ht => getD_in (by simpa using ht) (getD_replicate_false _ _)⟩
  refine wp_region_any hm ?_
  have := anyT_out (g := ops.size - n) (fun s a w hL => by
    have := wpAny_of_seq (md := .any) (Q' := Q) (ops.toList.drop n) n s a w (fun j => by simp [List.getElem?_drop]) (by simpa using hL.1) hL.2
    simpa using this) _ _ _ _ (h inv0)
  rw [show n + (ops.size - n) = ops.size by omega] at this
  exact this
end
end Go.Proofs.YtkehmidldcggcaaDoor
