/- The abstract machine, 20: contracts of the old form; arguments that say less. -/
import Derived.Test.YtoecmmpjndcolaaDoorQp
import Derived.Test.YtoecmmpjndcolaaDoorQs
set_option linter.unusedSimpArgs false
set_option linter.unusedVariables false
namespace Go.AM
open Go
section
variable {P : Program}
/-- What lies in the tables. -/
def Globs (G : List (Nat × List Value)) (w : World) : Prop := ∀ g cs, (g, cs) ∈ G → g < w.heap.size ∧ ∀ (j : Nat) u, cs[j]? = some u → w.cell? ⟨g, j, none⟩ = some u
/-- A contract of the old form: a plain value; what was there is as it was. -/
theorem con_of_calls {f : Nat} {G : List (Nat × List Value)} {xs : List AV} {v : Value} (hok : okFn P f = true)
    (h : ∀ (w : World) (z : Zone) (vs : List Value), (∀ t b, z t b → b < w.heap.size) → Reps w z [] xs vs → Globs G w → Calls P f vs.toArray w (fun e w' => e = .returned v ∧ Go.RowKit.Below w.heap.size w w')) : Con P G f xs [] 0 (Is (.r v) [] 0) No := by
  refine ⟨hok, fun w th z own vs ho hm hr => ?_⟩
  have hth : th = [] := List.length_eq_zero_iff.1 hm.len
  subst hth
  refine (h w z vs hm.zlt hr (fun g cs hg => ⟨hm.zlt _ _ (hm.globs g cs hg).1, (hm.globs g cs hg).2⟩)).mono ?_
  rintro e w' ⟨rfl, hb⟩
  refine ⟨v, .r v, [], 0, [], z, .inl ⟨rfl, rfl, rfl, rfl⟩, ?_, .r _ _⟩
  refine ⟨rfl, fun i nd hi => by simp [lk] at hi, fun i j x y L M hi => by simp [lk] at hi, fun t b hz => Nat.lt_of_lt_of_le (hm.zlt t b hz) hb.size, hb.size, fun b hlt _ => hb.block b hlt, fun t b h => h, fun b h => .inl h, fun b h => h, ?_, fun i L hi => by simp at hi, ⟨hb.os, hb.tape, hb.output⟩⟩
  intro g cs hg
  obtain ⟨h1, h2⟩ := hm.globs g cs hg
  exact ⟨h1, fun j u hu => (cell_heap (hb.block g (hm.zlt _ _ h1)) j).trans (h2 j u hu)⟩
mutual
/-- The second says no more than the first: a nil slice is a slice without elements; what is read for good is read. -/
def wk : AV → AV → Prop
  | .r (.slice none 0 0), .ro _ _ [] => True
  | .agg a, .agg b => wkL a b
  | x, y => x = y
def wkL : List AV → List AV → Prop
  | [], [] => True
  | x :: a, y :: b => wk x y ∧ wkL a b
  | _, _ => False
end
variable {w : World} {z : Zone} {th : List NLoc}
mutual
theorem wk_rep : ∀ {x y : AV} {v : Value}, wk x y → Rep w z th x v → Rep w z th y v
  | .r u, y, v, h, hr => by
    unfold wk at h
    split at h
    · rename_i t k e; cases e; exact nil_ro _ _ hr
    · rename_i a b e; cases e
    · subst h; exact hr
  | .agg a, y, v, h, hr => by
    unfold wk at h
    split at h
    · rename_i e; cases e
    · rename_i a' b e; cases e
      obtain ⟨ys, rfl, hc⟩ := hr.agg_inv
      have := wkL_rep h hc
      exact .agg _ _ _ this.1 this.2
    · subst h; exact hr
  | .ro t k e, y, v, h, hr => by simp [wk] at h; subst h; exact hr
  | .re t c o, y, v, h, hr => by simp [wk] at h; subst h; exact hr
  | .s n l k, y, v, h, hr => by simp [wk] at h; subst h; exact hr
  | .p n i o, y, v, h, hr => by simp [wk] at h; subst h; exact hr
  | .tup c, y, v, h, hr => by simp [wk] at h; subst h; exact hr
  | .fn f c, y, v, h, hr => by simp [wk] at h; subst h; exact hr
  | .ifc t c, y, v, h, hr => by simp [wk] at h; subst h; exact hr
theorem wkL_rep : ∀ {x y : List AV} {vs : List Value}, wkL x y → Reps w z th x vs → Reps w z th y vs
  | [], [], vs, _, hr => hr
  | x :: a, y :: b, vs, h, hr => by
    unfold wkL at h
    obtain ⟨v, r, rfl, h1, h2⟩ := hr.head
    exact .cons (wk_rep h.1 h1) (wkL_rep h.2 h2)
  | [], _ :: _, _, h, _ => by simp [wkL] at h
  | _ :: _, [], _, h, _ => by simp [wkL] at h
end
theorem Con.weak {G : List (Nat × List Value)} {f : Nat} {xs xs' : List AV} {o : List (Nat × Nd)} {n : Nat} {Q R : AV → List (Nat × Nd) → Nat → Prop} (hc : Con P G f xs' o n Q R) (h : wkL xs xs') : Con P G f xs o n Q R :=
  hc.args (fun _ _ _ _ hr => wkL_rep h hr)
end
end Go.AM
