/- Texts of the law LockWaits, part 1: lemmas; what is proved stands in the last text. -/
import Derived.Test.YteebiklebedneaaDoorProg
import Derived.Handy
import Derived.WalkSpells
import Derived.WalkLawsBesides
import Derived.Deep.Light
import Derived.StillTailTactics
import Derived.Lib.SmallJoins
import Derived.Lib.Hide
import Derived.Below
import Derived.OpenShut
import Derived.WalkKit
import Derived.ProofKit
import Derived.ChangeOld
import Derived.Shelf.Abstract
import Derived.Deep.QuietTactic
import Derived.BigQuiet
import Derived.StillTail
import Derived.OrdersHeld
import Derived.RegionTactic
import Derived.Deep.RegionHeld3
import Derived.Deep.AppendLies
import Derived.Laws.AppendOwnNone
import Derived.Outline
import Derived.Laws.StructEq
set_option linter.unusedSimpArgs false
set_option linter.unusedVariables false
/- The contracts of the lock layer's modes: over the two tables. -/
namespace Go.Proofs.YteebiklebedneaaDoor
open Go.RowKit
theorem size_drewN (w : World) (n : Nat) : (w.drewN n).heap.size = w.heap.size := rfl
theorem in_any (n a b : Int) (w : World) : Calls Tryd.prog 53 #[.int .i64 n, .int .i64 a, .int .i64 b] w fun e w' => e = .returned (.bool (decide (a ≤ n) && decide (n ≤ b))) ∧ w = w' := by
  go_enter Tryd.func53, Tryd.ntmps53
  go_wp2
  all_goals (go_ret; refine ⟨?_, rfl⟩; simp <;> omega)
theorem mode_any (n : Int) (w : World) : Calls Tryd.prog 101 #[.int .i64 n] w fun e w' => e = .returned (.bool (decide (1 ≤ n) && decide (n ≤ 5))) ∧ w = w' := by
  go_enter Tryd.func101, Tryd.ntmps101
  go_wp2
  all_goals (go_ret; refine ⟨?_, rfl⟩; simp <;> omega)
/-- The table of which modes go together, as laid. -/
def fitsL : List (List Bool) := [[false, false, false, false, false, false], [false, true, true, true, true, false], [false, true, true, false, false, false], [false, true, false, true, false, false], [false, true, false, false, false, false], [false, false, false, false, false, false]]
def joinsL : List (List Int) := [[0, 0, 0, 0, 0, 0], [0, 1, 2, 3, 4, 5], [0, 2, 2, 4, 4, 5], [0, 3, 4, 3, 4, 5], [0, 4, 4, 4, 4, 5], [0, 5, 5, 5, 5, 5]]
def fitB (a b : Int) : Bool := (fitsL.getD a.toNat []).getD b.toNat false
def joinB (a b : Int) : Int := (joinsL.getD a.toNat []).getD b.toNat 0
/-- What the listed variables hold. -/
def TabFits (w : World) : Prop := ∀ i j : Nat, i < 6 → j < 6 → w.cell? ⟨2, i * 6 + j, none⟩ = some (.bool ((fitsL.getD i []).getD j false))
def TabJoins (w : World) : Prop := ∀ i j : Nat, i < 6 → j < 6 → w.cell? ⟨1, i * 6 + j, none⟩ = some (.int .i64 ((joinsL.getD i []).getD j 0))
theorem TabFits.at {w : World} (h : TabFits w) {a b : Int} (ha : a ≤ 5) (hb : b ≤ 5) : w.cell? ⟨2, a.toNat * 6 + b.toNat, none⟩ = some (.bool (fitB a b)) := h _ _ (by omega) (by omega)
theorem TabJoins.at {w : World} (h : TabJoins w) {a b : Int} (ha : a ≤ 5) (hb : b ≤ 5) : w.cell? ⟨1, a.toNat * 6 + b.toNat, none⟩ = some (.int .i64 (joinB a b)) := h _ _ (by omega) (by omega)
theorem TabFits.below {w w' : World} {B : Nat} (h : TabFits w) (hb : Below B w w') (hB : 2 < B) : TabFits w' := fun i j hi hj => (hb.cell (p := ⟨_, _, none⟩) hB).trans (h i j hi hj)
theorem TabJoins.below {w w' : World} {B : Nat} (h : TabJoins w) (hb : Below B w w') (hB : 1 < B) : TabJoins w' := fun i j hi hj => (hb.cell (p := ⟨_, _, none⟩) hB).trans (h i j hi hj)
def modeB (n : Int) : Bool := decide (1 ≤ n) && decide (n ≤ 5)
def fitsM (a b : Int) : Bool × Int := if modeB a && modeB b then (fitB a b, 0) else (false, 2)
def joinsM (a b : Int) : Int × Int := if modeB a && modeB b then (joinB a b, 0) else (0, 2)
/-! The reference. -/
def doesM (m : Int) : Int := if m = 1 then 1 else if m = 2 then 3 else if m = 3 then 5 else if m = 4 then 7 else 15
theorem does_any (m : Int) (w : World) : Calls Tryd.prog 131 #[.int .i64 m] w fun e w' => e = .returned (.int .i64 (doesM m)) ∧ w = w' := by
  go_enter Tryd.func131, Tryd.ntmps131
  go_wp2
  all_goals
    go_ret
    go_light
    refine ⟨?_, rfl⟩
    simp_all [doesM]
theorem doesM_bd (m : Int) : 0 ≤ doesM m ∧ doesM m ≤ 15 := by unfold doesM; repeat' split <;> omega
def hasM (m what : Int) : Bool := doesM m / what % 2 == 1
theorem has_any (m what : Int) (w : World) (h1 : 1 ≤ what) (h2 : what ≤ 8) : Calls Tryd.prog 105 #[.int .i64 m, .int .i64 what] w fun e w' => e = .returned (.bool (hasM m what)) ∧ w = w' := by
  obtain ⟨b1, b2⟩ := doesM_bd m
  have d1 : 0 ≤ doesM m / what := Int.ediv_nonneg b1 (by omega)
  have d2 : doesM m / what ≤ 15 := Int.le_trans (Int.ediv_le_self _ b1) b2
  go_enter Tryd.func105, Tryd.ntmps105
  go_wp2_with (go_at_call 131; refine (does_any _ _).mono ?_; rintro e w1 ⟨rfl, rfl⟩)
  all_goals
    go_ret
    go_light
    exact ⟨rfl, rfl⟩
def fittingM (a b : Int) : Bool := if hasM a 8 || hasM b 8 then false else !(hasM a 4 && hasM b 2) && !(hasM b 4 && hasM a 2)
theorem fitting_any (a b : Int) (w : World) : Calls Tryd.prog 104 #[.int .i64 a, .int .i64 b] w fun e w' => e = .returned (.bool (fittingM a b)) ∧ w = w' := by
  go_enter Tryd.func104, Tryd.ntmps104
  go_wp2_with (go_at_call 105; refine (has_any _ _ _ (by omega) (by omega)).mono ?_; rintro e w1 ⟨rfl, rfl⟩)
  all_goals
    go_ret
    go_light
    refine ⟨?_, rfl⟩
    simp_all [fittingM]
theorem modes_cases {a : Int} (h1 : 1 ≤ a) (h2 : a ≤ 5) : a = 1 ∨ a = 2 ∨ a = 3 ∨ a = 4 ∨ a = 5 := by omega
theorem fitting_eq (a b : Int) (h1 : 1 ≤ a) (h2 : a ≤ 5) (h3 : 1 ≤ b) (h4 : b ≤ 5) : fittingM a b = fitB a b := by
  rcases modes_cases h1 h2 with rfl | rfl | rfl | rfl | rfl <;> rcases modes_cases h3 h4 with rfl | rfl | rfl | rfl | rfl <;> decide
end Go.Proofs.YteebiklebedneaaDoor
/- Slices that came in, read as lists. -/
namespace Go.Proofs.YteebiklebedneaaDoor
open Go.ChangeShapes Go.WideShapes Go.ChangeAt Go.RowKit
/-- Cells of a slice, k an element: the list's own. -/
def SlAt {α : Type} (w : World) (k : Nat) (enc : α → List Value) (a : Option Addr) (l : List α) : Prop :=
  l = [] ∨ ∃ b o, a = some ⟨b, o, none⟩ ∧ b < w.heap.size ∧ ∀ j x, l[j]? = some x → ∀ i v, (enc x)[i]? = some v → w.cell? ⟨b, o + j * k + i, none⟩ = some v
theorem SlAt.nil {α : Type} {w : World} {k : Nat} {enc : α → List Value} {a : Option Addr} : SlAt w k enc a ([] : List α) := .inl rfl
theorem SlAt.below {α : Type} {w w' : World} {B k : Nat} {enc : α → List Value} {a : Option Addr} {l : List α} (h : SlAt w k enc a l) (hb : Below B w w') (hB : w.heap.size ≤ B) : SlAt w' k enc a l := by
  rcases h with h | ⟨b, o, ha, hlt, hc⟩
  · exact .inl h
  · exact .inr ⟨b, o, ha, Nat.lt_of_lt_of_le hlt hb.size, fun j x hj i v hi => (hb.cell (p := ⟨b, _, none⟩) (Nat.lt_of_lt_of_le hlt hB)).trans (hc j x hj i v hi)⟩
theorem SlAt.take {α : Type} {w : World} {k : Nat} {enc : α → List Value} {a : Option Addr} {l : List α} (h : SlAt w k enc a l) (n : Nat) : SlAt w k enc a (l.take n) := by
  rcases h with rfl | ⟨b, o, ha, hlt, hc⟩
  · exact .inl (by simp)
  · refine .inr ⟨b, o, ha, hlt, fun j x hj => hc j x ?_⟩
    by_cases h : j < n
    · simpa [List.getElem?_take, h] using hj
    · simp [List.getElem?_take, h] at hj
theorem add_none (a : Addr) (n : Nat) (h : a.spot = none) : a.add n = ⟨a.block, a.off + n, none⟩ := by
  unfold Addr.add
  split
  · rename_i h0; subst h0; cases a; simp_all
  · rfl
theorem open_list {H α : Type} {E : TypeId × Value → H} {P : Program} {w : World} {base : Nat} {spare : Nat → Bool} {held : Bool} {k fuel : Nat} {t e : TypeId} {cs : List Value} {x : DataW H × List MemPlace}
    (enc : α → List Value) (R : α → DataW H → Prop) (ht : P.underlying t = some (.slice e)) (hk : P.cellsOf e = k) (hk0 : 0 < k)
    (leaf : ∀ fuel cs x, DataW.trod E P w base spare held fuel e cs = some x → ∃ y, cs = enc y ∧ R y x.1)
    (h : DataW.trod E P w base spare held fuel t cs = some x) :
    ∃ (a : Option Addr) (l : List α) (cap : Nat), cs = [.slice a l.length cap] ∧ SlAt w k enc a l ∧ l.length ≤ cap ∧ cap ≤ maxLen ∧ (a = none → cap = 0) ∧
      ((a = none ∧ l = [] ∧ x.1 = .nil) ∨ ∃ ds rest, x.1 = .slice ds rest ∧ ds.length = l.length ∧ ∀ (i : Nat) y, l[i]? = some y → ∃ d, ds[i]? = some d ∧ R y d) := by
  rcases DataW.trod_slice ht h with ⟨rfl, rfl⟩ | ⟨a, len, cap, elems, rest, n, _, rfl, rfl, hb, hl, hm, hlen, hel, -, -⟩
  · exact ⟨none, [], 0, rfl, .inl rfl, Nat.le_refl _, Nat.zero_le _, fun _ => rfl, .inl ⟨rfl, rfl, rfl⟩⟩
  have hy : ∀ i : Fin len, ∃ y, w.cells? base (a.add (i.1 * k)) k = some (enc y) ∧ ∃ d, (elems.map (·.1))[i.1]? = some d ∧ R y d := fun ⟨i, hi⟩ => by
    have h1 := hel i hi
    rw [List.getElem?_eq_getElem (by omega), hk] at h1
    obtain ⟨cs', h2, h3⟩ := Option.bind_eq_some_iff.1 h1
    obtain ⟨y, rfl, hR⟩ := leaf _ _ _ h3
    exact ⟨y, h2, _, by simp [show i < elems.length by omega], hR⟩
  obtain ⟨f, hf⟩ := Classical.axiomOfChoice hy
  refine ⟨some a, List.ofFn f, cap, by simp, ?_, by simpa using hl, hm, (fun h => by cases h), .inr ⟨_, _, rfl, by simp [hlen], fun i y hi => ?_⟩⟩
  · by_cases h0 : len = 0
    · subst h0; exact .inl (by simp)
    have c0 := hf ⟨0, by omega⟩
    obtain ⟨_, l0, g0⟩ := World.cells?_some c0.1
    have g1 := g0 0 hk0
    rw [List.getElem?_eq_getElem (by omega)] at g1
    have hs : a.spot = none := by
      simp only [Nat.zero_mul] at g1
      have e0 : (a.add 0).add 0 = a := by simp [Addr.add]
      rw [e0] at g1
      unfold World.cell? at g1
      split at g1
      · split at g1
        · cases g1
        · rename_i h5; simpa using h5
      · cases g1
    have hlt : a.block < w.heap.size := by
      have := World.block_lt_of_cell? _ _ g1
      simpa [Addr.add] using this
    refine .inr ⟨a.block, a.off, by cases a; simp_all, hlt, fun j x hj i v hi => ?_⟩
    obtain ⟨hj', rfl⟩ : ∃ h : j < len, f ⟨j, h⟩ = x := by
      rw [List.getElem?_ofFn] at hj
      split at hj
      · rename_i h; exact ⟨h, by simpa using hj⟩
      · cases hj
    obtain ⟨_, l1, g2⟩ := World.cells?_some (hf ⟨j, hj'⟩).1
    have hi' := (List.getElem?_eq_some_iff.1 hi).1
    have g3 := g2 i (by omega)
    rw [add_none a _ hs, add_none _ _ rfl] at g3
    rw [← hi, ← g3]
  · obtain ⟨hi', rfl⟩ : ∃ h : i < len, f ⟨i, h⟩ = y := by
      rw [List.getElem?_ofFn] at hi
      split at hi
      · rename_i h; exact ⟨h, by simpa using hi⟩
      · cases hi
    exact (hf ⟨i, hi'⟩).2
end Go.Proofs.YteebiklebedneaaDoor
/- Slices of structs as lists; locks; slices.IndexFunc and ContainsFunc over locks; the lock layer's shape, find, free. -/
namespace Go.Proofs.YteebiklebedneaaDoor
open Go.RowKit
structure LK where
  t : Int
  s : ByteArray
  m : Int
def LK.cells (x : LK) : List Value := [.int .i64 x.t, .string x.s, .int .i64 x.m]
def LK.val (x : LK) : Value := .agg #[.int .i64 x.t, .string x.s, .int .i64 x.m]
abbrev LksAt (w : World) (a : Option Addr) (l : List LK) : Prop := SlAt w 3 LK.cells a l
theorem lk_cells {w : World} {b o : Nat} {l : List LK} (hc : ∀ j x, l[j]? = some x → ∀ i v, (LK.cells x)[i]? = some v → w.cell? ⟨b, o + j * 3 + i, none⟩ = some v) {j : Nat} {x : LK} (hj : l[j]? = some x) :
    w.cell? ⟨b, o + j * 3, none⟩ = some (.int .i64 x.t) ∧ w.cell? ⟨b, o + j * 3 + 1, none⟩ = some (.string x.s) ∧ w.cell? ⟨b, o + j * 3 + 2, none⟩ = some (.int .i64 x.m) :=
  ⟨hc j x hj 0 _ rfl, hc j x hj 1 _ rfl, hc j x hj 2 _ rfl⟩
/-- What is asked of a predicate: it answers at each element, and leaves the older memory alone. -/
def PredB (g : FuncId) (lb : Array Value) (p : LK → Bool) (l : List LK) (w : World) : Prop :=
  ∀ W, Below w.heap.size w W → ∀ x ∈ l, Calls Tryd.prog g (#[x.val] ++ lb) W fun e w' => e = .returned (.bool (p x)) ∧ Below w.heap.size w w'
def idxF (p : LK → Bool) : List LK → Int → Int
  | [], _ => -1
  | x :: r, k => if p x = true then k else idxF p r (k + 1)
theorem idxF_any (p : LK → Bool) : ∀ (l : List LK) (k : Int), 0 ≤ k → (decide (0 ≤ idxF p l k) = l.any p)
  | [], k, _ => by simp [idxF]
  | x :: r, k, h => by
    unfold idxF
    by_cases e : p x = true
    · simp [e, h]
    · rw [if_neg e, idxF_any p r (k + 1) (by omega)]
      simp [e]
set_option maxHeartbeats 1000000 in
theorem indexFunc_any (a : Option Addr) (l : List LK) (cap : Nat) (g : FuncId) (lb : Array Value) (p : LK → Bool) (w : World) (eg : ∀ args w, (callFunc g args).run Tryd.prog w = .ok (.enter g args) w)
    (hl : LksAt w a l) (hp : PredB g lb p l w) (hn : l.length ≤ 9223372036854775807) :
    Calls Tryd.prog 60 #[.slice a l.length cap, .func (.func g) #[] lb] w fun e w' => e = .returned (.int .i64 (idxF p l 0)) ∧ Below w.heap.size w w' := by
  rcases hl with rfl | ⟨b, o, rfl, hb, hc⟩
  · go_enter Tryd.func60, Tryd.ntmps60
    go_wp2
    go_rounds 1
    all_goals (go_ret; exact ⟨rfl, Below.refl _ _⟩)
  have HC := Lib.hid hc
  have HP := Lib.hid hp
  clear hc hp
  go_enter Tryd.func60, Tryd.ntmps60
  go_wp2
  go_loopw [5, 8] (fun _ i wr => ∃ k : Nat, k ≤ l.length ∧ i = .int .i64 k ∧ Hid (Below w.heap.size w wr) ∧ Hid (idxF p l 0 = idxF p (l.drop k) k)) (fun _ i _ => l.length - (intOf i).toNat)
  case atStart => exact ⟨0, by omega, rfl, Lib.hid (Below.refl _ _), Lib.hid (by simp)⟩
  case round =>
    obtain ⟨k, hk, rfl, HB, HJ⟩ := hrel
    by_cases hlt : k < l.length
    · obtain ⟨x, hx⟩ : ∃ x, l[k]? = some x := ⟨l[k], by simp [hlt]⟩
      have hd : l.drop k = x :: l.drop (k + 1) := by
        rw [List.drop_eq_getElem_cons hlt]
        rw [List.getElem?_eq_getElem hlt] at hx
        rw [Option.some.inj hx]
      have HD := Lib.hid hd
      have hm : x ∈ l := List.mem_of_getElem? hx
      obtain ⟨c0, c1, c2⟩ := lk_cells HC.out hx
      have hcall := HP.out wr HB.out x hm
      unfold LK.val at hcall
      have c0 := (HB.out.cell (p := ⟨b, o + k * 3, none⟩) hb).trans c0
      have c1 := (HB.out.cell (p := ⟨b, o + k * 3 + 1, none⟩) hb).trans c1
      have c2 := (HB.out.cell (p := ⟨b, o + k * 3 + 2, none⟩) hb).trans c2
      clear hd hx hm
      cases e : p x
      · rw [e] at hcall
        go_wp2_with (go_at_fn g; refine hcall.mono ?_; rintro e w' ⟨rfl, hb'⟩)
        go_roundw
        case rel => exact ⟨k + 1, by omega, by go_num, Lib.hid hb', Lib.hid (by rw [HJ.out, HD.out, idxF, if_neg (by simp [e])]; rfl)⟩
        case measure => simp [intOf]; omega
      · rw [e] at hcall
        go_wp2_with (go_at_fn g; refine hcall.mono ?_; rintro e w' ⟨rfl, hb'⟩)
        go_ret
        refine ⟨?_, hb'⟩
        rw [HJ.out, HD.out, idxF, if_pos e]
        rfl
    · obtain rfl : k = l.length := by omega
      go_wp2
      go_ret
      refine ⟨?_, HB.out⟩
      rw [HJ.out, List.drop_length, idxF]
      rfl
theorem containsFunc_any (a : Option Addr) (l : List LK) (cap : Nat) (g : FuncId) (lb : Array Value) (p : LK → Bool) (w : World) (eg : ∀ args w, (callFunc g args).run Tryd.prog w = .ok (.enter g args) w)
    (hl : LksAt w a l) (hp : PredB g lb p l w) (hn : l.length ≤ 9223372036854775807) :
    Calls Tryd.prog 76 #[.slice a l.length cap, .func (.func g) #[] lb] w fun e w' => e = .returned (.bool (l.any p)) ∧ Below w.heap.size w w' := by
  have h1 := idxF_any p l 0 (by omega)
  go_enter Tryd.func76, Tryd.ntmps76
  go_wp2_with (go_at_call 60; refine (indexFunc_any a l cap g lb p _ eg hl hp hn).mono ?_; rintro e w' ⟨rfl, hb'⟩)
  go_ret
  go_light
  refine ⟨?_, hb'⟩
  rw [← h1]
  rfl
end Go.Proofs.YteebiklebedneaaDoor
/- The lock layer's shape, find, free. -/
namespace Go.Proofs.YteebiklebedneaaDoor
open Go.RowKit
theorem below_step {B : Nat} {a w w' : World} (h : Below B a w) (hB : B ≤ w.heap.size) (hb : Below w.heap.size w w') : Below B a w' := h.trans (hb.mono hB)
theorem below_drewN {B : Nat} {a w : World} {n : Nat} (h : Below B a w) : Below B a (w.drewN n) := h.trans (Joins.below_draws B w n)
/-- P4.3 as numbers. -/
def shapeM (x : LK) : Int := if x.t < 1 ∨ 1048576 < x.t then 3 else if 120 < x.s.size then 1 else if modeB x.m = true then 0 else 2
theorem shape_any (x : LK) (w : World) (hs : x.s.size ≤ maxLen) : Calls Tryd.prog 78 #[.agg #[.int .i64 x.t, .string x.s, .int .i64 x.m]] w fun e w' => e = .returned (.int .i64 (shapeM x)) ∧ Below w.heap.size w w' := by
  have hs : x.s.size ≤ 9223372036854775807 := hs
  obtain ⟨t, s, m⟩ := x
  simp only at hs ⊢
  have hm : modeB m = (decide (1 ≤ m) && decide (m ≤ 5)) := rfl
  go_enter Tryd.func78, Tryd.ntmps78
  go_wp2_with (go_at_call 101; refine (mode_any _ _).mono ?_; rintro e w1 ⟨rfl, rfl⟩)
  all_goals
    go_ret
    go_light
    refine ⟨?_, ?_⟩
    · simp_all [shapeM]; try omega
    · (repeat' (first | (with_reducible exact Below.refl _ _) | (with_reducible assumption) | (with_reducible refine Below.alloc ?_ ?_ _) | (with_reducible refine Below.drew ?_) | (with_reducible refine below_drewN ?_) | (with_reducible refine Below.setCell ?_ ?_ _) | (with_reducible refine below_step ?_ ?_ (by with_reducible assumption)) | go_size))
theorem lockFault_any (x : LK) (w : World) (hs : x.s.size ≤ maxLen) : Calls Tryd.prog 84 #[.agg #[.int .i64 x.t, .string x.s, .int .i64 x.m]] w fun e w' => e = .returned (.int .i64 (shapeM x)) ∧ Below w.heap.size w w' := by
  have hs : x.s.size ≤ 9223372036854775807 := hs
  obtain ⟨t, s, m⟩ := x
  simp only at hs ⊢
  have hm : modeB m = (decide (1 ≤ m) && decide (m ≤ 5)) := rfl
  go_enter Tryd.func84, Tryd.ntmps84
  go_wp2_with (go_at_call 53; refine (in_any _ _ _ _).mono ?_; rintro e w1 ⟨rfl, rfl⟩)
  all_goals
    go_ret
    go_light
    refine ⟨?_, ?_⟩
    · simp_all [shapeM]; try omega
    · (repeat' (first | (with_reducible exact Below.refl _ _) | (with_reducible assumption) | (with_reducible refine Below.alloc ?_ ?_ _) | (with_reducible refine Below.drew ?_) | (with_reducible refine below_drewN ?_) | (with_reducible refine Below.setCell ?_ ?_ _) | (with_reducible refine below_step ?_ ?_ (by with_reducible assumption)) | go_size))
def isK (txn : Int) (thing : ByteArray) (x : LK) : Bool := x.t == txn && x.s.toList == thing.toList
theorem enters57 : ∀ args w, (callFunc 102 args).run Tryd.prog w = .ok (.enter 102 args) w := enters_of Tryd.func102 (by kernel_rfl) rfl
theorem enters58 : ∀ args w, (callFunc 103 args).run Tryd.prog w = .ok (.enter 103 args) w := enters_of Tryd.func103 (by kernel_rfl) rfl
theorem find1_pred (txn : Int) (thing : ByteArray) (B C : Nat) (l : List LK) (w : World) (hB : B < w.heap.size) (hC : C < w.heap.size) (h1 : w.cell? ⟨B, 0, none⟩ = some (.int .i64 txn)) (h2 : w.cell? ⟨C, 0, none⟩ = some (.string thing)) :
    PredB 102 #[.pointer (some ⟨B, 0, none⟩), .pointer (some ⟨C, 0, none⟩)] (isK txn thing) l w := fun W hb x _ => by
  have c1 : W.cell? ⟨B, 0, none⟩ = some (.int .i64 txn) := (hb.cell (p := ⟨B, 0, none⟩) hB).trans h1
  have c2 : W.cell? ⟨C, 0, none⟩ = some (.string thing) := (hb.cell (p := ⟨C, 0, none⟩) hC).trans h2
  have hz := hb.size
  have c1 := fun y => ((Joins.below_alloc1 W y).cell (p := ⟨B, 0, none⟩) (show B < W.heap.size from by omega)).trans c1
  have c2 := fun y => ((Joins.below_alloc1 W y).cell (p := ⟨C, 0, none⟩) (show C < W.heap.size from by omega)).trans c2
  obtain ⟨t, s, m⟩ := x
  show Calls Tryd.prog 102 #[.agg #[.int .i64 t, .string s, .int .i64 m], .pointer (some ⟨B, 0, none⟩), .pointer (some ⟨C, 0, none⟩)] W _
  go_enter Tryd.func102, Tryd.ntmps102
  go_wp2
  all_goals (go_ret; exact ⟨by simp_all [isK], hb.alloc hb.size _⟩)
def findM (txn : Int) (thing : ByteArray) (l : List LK) : Int := idxF (isK txn thing) l 0
theorem find_any (a : Option Addr) (l : List LK) (cap : Nat) (txn : Int) (thing : ByteArray) (w : World) (hl : LksAt w a l) (hn : l.length ≤ 9223372036854775807) :
    Calls Tryd.prog 79 #[.slice a l.length cap, .int .i64 txn, .string thing] w fun e w' => e = .returned (.int .i64 (findM txn thing l)) ∧ Below w.heap.size w w' := by
  have b2 : ∀ x y, Below w.heap.size w ((w.alloc x).alloc y) := fun x y => Joins.below_alloc2 w x y
  have hcon := fun x y => indexFunc_any a l cap 102 #[.pointer (some ⟨w.heap.size, 0, none⟩), .pointer (some ⟨w.heap.size + 1, 0, none⟩)] (isK txn thing) ((w.alloc (.cells #[.int .i64 txn] x)).alloc (.cells #[.string thing] y)) enters57 (hl.below (b2 _ _) (Nat.le_refl _)) (find1_pred txn thing _ _ l _ (by simp; omega) (by simp) (by simp) (by simp)) hn
  have HC := Lib.hid hcon
  have HB := Lib.hid b2
  clear hcon hl b2
  go_enter Tryd.func79, Tryd.ntmps79
  go_wp2_with (go_at_call 60; refine (HC.out _ _).mono ?_; rintro e w' ⟨rfl, hb'⟩)
  go_ret
  exact ⟨rfl, (HB.out _ _).trans (hb'.mono (by simp; omega))⟩
/-- Does what is held stand against what is asked for? -/
def agK (x h : LK) : Bool := h.s.toList == x.s.toList && h.t != x.t && !fitB h.m x.m
theorem TabFits.lt {w : World} (h : TabFits w) : 2 < w.heap.size := by
  have h0 := h 0 0 (by decide) (by decide)
  rcases Nat.lt_or_ge 2 w.heap.size with h | h
  · exact h
  · simp [World.cell?, Array.getElem?_eq_none h] at h0
theorem TabJoins.lt {w : World} (h : TabJoins w) : 1 < w.heap.size := by
  have h0 := h 0 0 (by decide) (by decide)
  rcases Nat.lt_or_ge 1 w.heap.size with h | h
  · exact h
  · simp [World.cell?, Array.getElem?_eq_none h] at h0
theorem free1_pred (x : LK) (B : Nat) (l : List LK) (w : World) (hB : B < w.heap.size) (hT : TabFits w) (h0 : w.cell? ⟨B, 0, none⟩ = some (.int .i64 x.t)) (h1 : w.cell? ⟨B, 1, none⟩ = some (.string x.s)) (h2 : w.cell? ⟨B, 2, none⟩ = some (.int .i64 x.m))
    (hx : modeB x.m = true) (hl : ∀ y ∈ l, modeB y.m = true) :
    PredB 103 #[.pointer (some ⟨B, 0, none⟩)] (agK x) l w := fun W hb y hy => by
  have c0 := (hb.cell (p := ⟨B, 0, none⟩) hB).trans h0
  have c1 := (hb.cell (p := ⟨B, 1, none⟩) hB).trans h1
  have c2 := (hb.cell (p := ⟨B, 2, none⟩) hB).trans h2
  have hz := hb.size
  have c0 := fun y => ((Joins.below_alloc1 W y).cell (p := ⟨B, 0, none⟩) (show B < W.heap.size from by omega)).trans c0
  have c1 := fun y => ((Joins.below_alloc1 W y).cell (p := ⟨B, 1, none⟩) (show B < W.heap.size from by omega)).trans c1
  have c2 := fun y => ((Joins.below_alloc1 W y).cell (p := ⟨B, 2, none⟩) (show B < W.heap.size from by omega)).trans c2
  have hyl := hl y hy
  have hT' : TabFits W := hT.below hb hT.lt
  have hT2 := (hT'.below (Joins.below_alloc1 W (.cells #[.int .i64 y.t, .string y.s, .int .i64 y.m] 82)) hT'.lt)
  obtain ⟨t, s, m⟩ := y
  obtain ⟨xt, xs, xm⟩ := x
  simp only [modeB, Bool.and_eq_true, decide_eq_true_eq] at hyl hx
  have hc := hT2.at (a := m) (b := xm) (by omega) (by omega)
  obtain ⟨m1, m2⟩ := hyl
  obtain ⟨x1, x2⟩ := hx
  simp only at hc c0 c1 c2
  clear hT hT' hT2 hl hy h0 h1 h2
  show Calls Tryd.prog 103 #[.agg #[.int .i64 t, .string s, .int .i64 m], .pointer (some ⟨B, 0, none⟩)] W _
  cases e1 : (s.toList == xs.toList)
  · go_enter Tryd.func103, Tryd.ntmps103
    go_wp2
    go_quiet (fail)
    go_wp2
    all_goals (go_ret; exact ⟨by simp_all [agK], by (repeat' (first | (with_reducible exact Below.refl _ _) | (with_reducible assumption) | (with_reducible refine Below.alloc ?_ ?_ _) | (with_reducible refine Below.drew ?_) | (with_reducible refine below_drewN ?_) | (with_reducible refine Below.setCell ?_ ?_ _) | (with_reducible refine below_step ?_ ?_ (by with_reducible assumption)) | go_size))⟩)
  · cases e2 : (t != xt)
    · go_enter Tryd.func103, Tryd.ntmps103
      go_wp2
      go_quiet (fail)
      go_wp2
      all_goals (go_ret; exact ⟨by simp_all [agK], by (repeat' (first | (with_reducible exact Below.refl _ _) | (with_reducible assumption) | (with_reducible refine Below.alloc ?_ ?_ _) | (with_reducible refine Below.drew ?_) | (with_reducible refine below_drewN ?_) | (with_reducible refine Below.setCell ?_ ?_ _) | (with_reducible refine below_step ?_ ?_ (by with_reducible assumption)) | go_size))⟩)
    · go_enter Tryd.func103, Tryd.ntmps103
      go_wp2
      go_quiet (fail)
      go_wp2
      all_goals (go_ret; exact ⟨by simp_all [agK], by (repeat' (first | (with_reducible exact Below.refl _ _) | (with_reducible assumption) | (with_reducible refine Below.alloc ?_ ?_ _) | (with_reducible refine Below.drew ?_) | (with_reducible refine below_drewN ?_) | (with_reducible refine Below.setCell ?_ ?_ _) | (with_reducible refine below_step ?_ ?_ (by with_reducible assumption)) | go_size))⟩)
end Go.Proofs.YteebiklebedneaaDoor
/- A region that draws its order, cut in two: a head whose loads are taken first under a condition S on the world, and a tail that stands behind all of the head in one forced order: the tail is walked as a list, and S is not asked there. -/
namespace Go.Proofs.YteebiklebedneaaDoor
open Go.RowKit
section
variable {P : Program} {ops : Array Oper} {Q : Exit → Act → World → Prop} {S : World → Prop} {n : Nat} {L : Array Bool → Act → World → Prop}
/-- Whatever order is picked, f operations of the head yet to come: S behind each, and L at the end. -/
def anyT (P : Program) (ops : Array Oper) (Q : Exit → Act → World → Prop) (S : World → Prop) (n : Nat) (L : Array Bool → Act → World → Prop) : Nat → Array Bool → Act → World → Prop
  | 0, s, a, w => L s a w
  | f + 1, s, a, w => Region.ready .any ops s ≠ [] ∧ ∀ i ∈ Region.ready .any ops s, i < n ∧ wpOp P ops Q i (fun a' w' => S w' ∧ anyT P ops Q S n L f (s.setIfInBounds i true) a' w') a w
theorem anyT_out {g : Nat} (hL : ∀ s a w, L s a w → wpAny P .any ops Q g s a w) : ∀ (f : Nat) (s : Array Bool) (a : Act) (w : World), anyT P ops Q S n L f s a w → wpAny P .any ops Q (f + g) s a w
  | 0, s, a, w, h => by rw [Nat.zero_add]; exact hL _ _ _ h
  | f + 1, s, a, w, h => by
    rw [show f + 1 + g = (f + g) + 1 by omega]
    exact ⟨fun h0 => absurd h0 h.1, fun i hi => wpOp_mono (fun a' w' h' => anyT_out hL f _ a' w' h'.2) (h.2 i hi).2⟩
/-- Number i may be taken first: it yields its value in every world that meets S. -/
theorem anyT_first {i : Nat} {oi : Oper} {v : Value} (hi : ops[i]? = some oi) (hsel : ∀ (j : Nat) (o : Oper) cs b, ops[j]? = some o → o.op ≠ .select cs b)
    (hQ : ∀ c a w, Q (.panic c) (a.put oi.dst v) w → Q (.panic c) a w) (hs : Region.sinkB .any ops n = true) (hc : Region.chainB .any ops n = true) (hn : n < ops.size) (hin : i < n)
    (hdone : ∀ s a w, L s a w → ∀ j ∈ Region.ready .any ops s, n ≤ j) : ∀ (f : Nat) (s : Array Bool) (a : Act) (w : World), HeadInv .any ops n s →
      (∀ j oj, ops[j]? = some oj → j ≠ i → s.getD j true = false → (∀ e ∈ oj.after, Region.binds .any e = true → e.on ≠ i) → oi.apart ops oj = true) →
      i ∈ Region.ready .any ops s → YieldsIf P ops S oi v a → S w → anyT P ops Q S n L f (s.setIfInBounds i true) (a.put oi.dst v) w → anyT P ops Q S n L (f + 1) s a w := by
  intro f
  induction f with
  | zero =>
    intro s a w inv _ hr hy hS H
    refine ⟨fun h => (by rw [h] at hr; cases hr), fun j hj => ?_⟩
    have hjn : j < n := by
      by_cases h : j < n
      · exact h
      · exact absurd hj (tail_waits hs hc hn inv _ i rfl hin (mem_ready.1 hr).1 j (by omega))
    by_cases hji : j = i
    · subst hji; exact ⟨hjn, hy.wpOp hi hS ⟨hS, H⟩⟩
    · have := hdone _ _ _ H j (ready_mono hj hji)
      omega
  | succ f ih =>
    intro s a w inv hfree hr hy hS H
    refine ⟨fun h => (by rw [h] at hr; cases hr), fun j hj => ?_⟩
    have hjn : j < n := by
      by_cases h : j < n
      · exact h
      · exact absurd hj (tail_waits hs hc hn inv _ i rfl hin (mem_ready.1 hr).1 j (by omega))
    refine ⟨hjn, ?_⟩
    by_cases hji : j = i
    · subst hji; exact hy.wpOp hi hS ⟨hS, H⟩
    · have h1 := (H.2 j (ready_mono hj hji)).2
      obtain ⟨hjun, oj, hoj, hall⟩ := mem_ready.1 hj
      have hiun := (mem_ready.1 hr).1
      have hnot : ∀ e ∈ oj.after, Region.binds .any e = true → e.on ≠ i := fun e he hb heq => by
        have h2 := hall e he hb
        rw [heq, getD_both hiun] at h2
        cases h2
      have h2 := wpOp_putIf hoj (hfree j oj hoj hji hjun hnot) (fun cs b => hsel i oi cs b hi) (fun cs b => hsel j oj cs b hoj) hQ hy h1
      refine wpOp_mono (fun a' w' h3 => ⟨h3.2.1, ih _ a' w' (inv.set hj hjn) (fun k ok hk hki hun hno => hfree k ok hk hki ?_ hno) (ready_mono hr (Ne.symm hji)) h3.1 h3.2.1 ?_⟩) h2
      · by_cases hjk : j = k
        · subst hjk; exact hjun
        · rwa [getD_set_ne true hjk] at hun
      · rw [Array.setIfInBounds_comm _ _ hji]
        exact h3.2.2
/-- The tail, as a list. -/
def tailL (P : Program) (ops : Array Oper) (Q : Exit → Act → World → Prop) (n : Nat) (s : Array Bool) (a : Act) (w : World) : Prop :=
  Region.seqB .any ops (ops.size - n) n s = true ∧ wpList P ops Q (ops.toList.drop n) a w
theorem anyT_take {i : Nat} {oi : Oper} {v : Value} {f : Nat} {s : Array Bool} {a : Act} {w : World} (hi : ops[i]? = some oi) (hB : (Region.noSelect ops && Region.sinkB .any ops n && Region.chainB .any ops n && decide (n < ops.size) && decide (i < n)) = true)
    (hf : Region.free .any ops s i = true) (hr : (Region.ready .any ops s).contains i = true) (hQ : ∀ c a w, Q (.panic c) (a.put oi.dst v) w → Q (.panic c) a w) (hy : YieldsIf P ops S oi v a) (hS : S w) (inv : HeadInv .any ops n s)
    (h : HeadInv .any ops n (s.setIfInBounds i true) → anyT P ops Q S n (tailL P ops Q n) f (s.setIfInBounds i true) (a.put oi.dst v) w) : anyT P ops Q S n (tailL P ops Q n) (f + 1) s a w := by
  simp only [Bool.and_eq_true, decide_eq_true_eq] at hB
  obtain ⟨⟨⟨⟨h1, h2⟩, h3⟩, h4⟩, h5⟩ := hB
  have hr' : i ∈ Region.ready .any ops s := by simpa using hr
  exact anyT_first hi (Region.noSelect_spec h1) hQ h2 h3 h4 h5 (fun s a w hL => seqB_ready hL.1) f s a w inv (Region.free_spec hi hf) hr' hy hS (h (inv.set hr' h5))
/-- One operation alone may come up: it is carried out. -/
theorem anyT_step {i : Nat} {o : Oper} {f : Nat} {s : Array Bool} {a : Act} {w : World} (ho : ops[i]? = some o) (hr : Region.ready .any ops s = [i]) (hin : i < n) (inv : HeadInv .any ops n s)
    (h : ∀ K : Act → World → Prop, (∀ a' w', S w' → (HeadInv .any ops n (s.setIfInBounds i true) → anyT P ops Q S n (tailL P ops Q n) f (s.setIfInBounds i true) a' w') → K a' w') →
      if Region.wanted o (yielded ops a.tmps) = true then Oper.wp P o a w K Q else K (a.put o.dst undef) w) : anyT P ops Q S n (tailL P ops Q n) (f + 1) s a w := by
  refine ⟨fun h0 => (by rw [h0] at hr; cases hr), fun j hj => ?_⟩
  have inv' := inv.set (i := i) (by rw [hr]; simp) hin
  rw [hr] at hj
  obtain rfl : j = i := by simpa using hj
  exact ⟨hin, wpOp_step ho fun K' hK => h K' fun a' w' hS hT => hK a' w' ⟨hS, hT inv'⟩⟩
theorem anyT_end {s : Array Bool} {a : Act} {w : World} (hB : Region.seqB .any ops (ops.size - n) n s = true) (h : wpList P ops Q (ops.toList.drop n) a w) : anyT P ops Q S n (tailL P ops Q n) 0 s a w := ⟨hB, h⟩
/-- The beginning. -/
theorem wp_cut {id : Nat} {a : Act} {w : World} (S : World → Prop) (n : Nat) (hm : P.follows .mixedOrders = true) (hnb : Nat.ble n ops.size = true)
    (h : HeadInv .any ops n (Array.replicate ops.size false) → anyT P ops Q S n (tailL P ops Q n) n (Array.replicate ops.size false) a w.drew) : (Code.region id ops true).wp P Q a w := by
  have hn : n ≤ ops.size := Nat.le_of_ble_eq_true hnb
  have inv0 : HeadInv .any ops n (Array.replicate ops.size false) :=
    ⟨by simp, fun j oj _ hl => (by rw [getD_replicate_false] at hl; cases hl), fun t _ ht => getD_in (by simpa using ht) (getD_replicate_false _ _)⟩
  refine wp_region_any hm ?_
  have := anyT_out (g := ops.size - n) (fun s a w hL => by
    have := wpAny_of_seq (md := .any) (Q' := Q) (ops.toList.drop n) n s a w (fun j => by simp [List.getElem?_drop]) (by simpa using hL.1) hL.2
    simpa using this) _ _ _ _ (h inv0)
  rw [show n + (ops.size - n) = ops.size by omega] at this
  exact this
end
end Go.Proofs.YteebiklebedneaaDoor
/- LocksCopy: new memory, the same lists. -/
namespace Go.Proofs.YteebiklebedneaaDoor
open Go.RowKit Go.Joins
theorem infoLock : (Tryd.prog.info? 82).map (fun i => (i.zero, i.size, i.bytes)) = some (some (.agg #[.int .i64 0, .string ⟨#[]⟩, .int .i64 0]), 3, 32) := by kernel_rfl
def flat (l : List LK) : List Value := l.flatMap LK.cells
theorem flat_len : ∀ l : List LK, (flat l).length = l.length * 3
  | [] => rfl
  | x :: r => by show (LK.cells x ++ flat r).length = _; rw [List.length_append, flat_len r]; simp [LK.cells]; omega
theorem flat_at : ∀ (l : List LK) (j : Nat) (x : LK), l[j]? = some x → ∀ i v, (LK.cells x)[i]? = some v → (flat l)[j * 3 + i]? = some v
  | [], j, x, h, _, _, _ => by simp at h
  | y :: r, 0, x, h, i, v, hi => by
    simp at h; subst h
    have hl : i < 3 := by
      have := (List.getElem?_eq_some_iff.1 hi).1
      simpa [LK.cells] using this
    show (LK.cells y ++ flat r)[0 * 3 + i]? = _
    rw [List.getElem?_append_left (by simp [LK.cells]; omega)]
    simpa using hi
  | y :: r, j + 1, x, h, i, v, hi => by
    show (LK.cells y ++ flat r)[(j + 1) * 3 + i]? = _
    rw [List.getElem?_append_right (by simp [LK.cells]; omega)]
    have := flat_at r j x (by simpa using h) i v hi
    have e : (j + 1) * 3 + i - (LK.cells y).length = j * 3 + i := by simp [LK.cells]; omega
    rw [e]; exact this
/-- A slice of the call's own reads as the list. -/
theorem lks_of_owns {w : World} {base n : Nat} {v : Value} {l : List LK} (h : w.ownsRow base 82 3 v n (flat l)) : n = l.length ∧ ∃ a cap, v = .slice a l.length cap ∧ LksAt w a l ∧ (l = [] ∨ ∃ g, a = some ⟨g, 0, none⟩ ∧ base ≤ g) ∧ l.length ≤ cap := by
  have hn : n = l.length := by have := h.1; rw [flat_len] at this; omega
  subst hn
  refine ⟨rfl, ?_⟩
  have h2 := h
  rcases h.2 with ⟨rfl, hz⟩ | ⟨g, cap, cur, rfl, hg, hh, hc, _, hs, ht⟩
  · have : l = [] := List.length_eq_zero_iff.1 hz
    subst this
    exact ⟨none, 0, rfl, .inl rfl, .inl rfl, Nat.le_refl _⟩
  · refine ⟨_, _, rfl, .inr ⟨g, 0, rfl, (Array.getElem?_eq_some_iff.1 hh).1, fun j x hj i v hi => ?_⟩, .inr ⟨g, rfl, hg⟩, hc⟩
    have h3 := flat_at l j x hj i v hi
    have hj' := (List.getElem?_eq_some_iff.1 hj).1
    have hi' : i < 3 := by simpa [LK.cells] using (List.getElem?_eq_some_iff.1 hi).1
    rw [← ht] at h3
    rw [List.getElem?_take_of_lt (by omega), Array.getElem?_toList] at h3
    rw [Joins.cell_of_block hh, Nat.zero_add, h3]
theorem own_ne {w : World} {base size n B : Nat} {e : TypeId} {v : Value} {xs : List Value} (h : w.ownsRow base e size v n xs) (hB : B < base) : v.ownBlock ≠ some B := by
  rcases h.2 with ⟨rfl, _⟩ | ⟨g, cap, cur, rfl, hg, _⟩
  · simp [Value.ownBlock]
  · simp [Value.ownBlock]; omega
theorem own_kept {w w' : World} {base size n : Nat} {e : TypeId} {v : Value} {xs : List Value} (h : w.ownsRow base e size v n xs) (hk : ∀ g, v.ownBlock = some g → w'.heap[g]? = w.heap[g]?) : w'.ownsRow base e size v n xs := by
  refine ⟨h.1, ?_⟩
  rcases h.2 with h | ⟨g, cap, cur, rfl, hg, hh, r⟩
  · exact .inl h
  · exact .inr ⟨g, cap, cur, rfl, hg, (hk g rfl).trans hh, r⟩
theorem own_lt {w : World} {base size n g : Nat} {e : TypeId} {v : Value} {xs : List Value} (h : w.ownsRow base e size v n xs) (hg : v.ownBlock = some g) : base ≤ g ∧ g < w.heap.size := by
  rcases h.2 with ⟨rfl, _⟩ | ⟨g', cap, cur, rfl, hb, hh, _⟩
  · simp [Value.ownBlock] at hg
  · simp [Value.ownBlock] at hg
    subst hg
    exact ⟨hb, (Array.getElem?_eq_some_iff.1 hh).1⟩
theorem new_at (w : World) (o : Obj) (n : Nat) (h : n = w.heap.size) : (w.alloc o).heap[n]? = some o := by subst h; exact heap_alloc_new w o
theorem flat_succ (l : List LK) (k : Nat) (x : LK) (h : l[k]? = some x) : flat (l.take (k + 1)) = flat (l.take k) ++ [.int .i64 x.t, .string x.s, .int .i64 x.m] := by
  rw [List.take_add_one, h]
  simp [flat, LK.cells]
/-- Behind an allocation, a growing append and a store into block C: another block of old. -/
theorem stay_block {wr W w1 : World} {row : Option Nat} {B C o : Nat} {u : Value} (hW : W.heap[B]? = wr.heap[B]?) (hs : wr.heap.size ≤ W.heap.size) (hg : W.grownBy w1 row) (hB : B < wr.heap.size) (hne : row ≠ some B) (hC : B ≠ C) :
    (w1.setCell ⟨C, o, none⟩ u).heap[B]? = wr.heap[B]? := by
  rw [Below.heap_setCell _ _ _ _ hC, hg.block B (by omega) (Ne.symm hne), hW]
set_option maxRecDepth 100000 in
set_option maxHeartbeats 2000000 in
theorem copy_own (a1 a2 : Option Addr) (l1 l2 : List LK) (p1 p2 : Nat) (w : World) (h1 : LksAt w a1 l1) (h2 : LksAt w a2 l2) (n1 : l1.length ≤ 1048576) (n2 : l2.length ≤ 1048576) :
    Calls Tryd.prog 19 #[.agg #[.slice a1 l1.length p1, .slice a2 l2.length p2]] w fun e w' =>
      (∃ v1 v2, e = .returned (.agg #[v1, v2]) ∧ w'.ownsRow w.heap.size 82 3 v1 l1.length (flat l1) ∧ w'.ownsRow w.heap.size 82 3 v2 l2.length (flat l2) ∧ ∀ g, v1.ownBlock = some g → v2.ownBlock ≠ some g) ∧ Below w.heap.size w w' := by
  obtain ⟨i0, hi0, hz0, hz1, hz2⟩ := info_parts infoLock
  have H1 := Lib.hid h1
  have H2 := Lib.hid h2
  clear h1 h2
  go_enter Tryd.func19, Tryd.ntmps19
  go_wp2
  go_loopw [4] (fun i wr => ∃ (k : Nat) (v : Value), k ≤ l1.length ∧ i = .int .i64 k ∧
      Hid (wr.heap[w.heap.size]? = some (.cells #[.slice a1 l1.length p1, .slice a2 l2.length p2] 41 (0, 0)) ∧
        wr.heap[w.heap.size + 1]? = some (.cells #[.slice none 0 0, .slice none 0 0] 41 (0, 0)) ∧
        wr.heap[w.heap.size + 1 + 1]? = some (.cells #[v, .slice none 0 0] 41 (0, 0)) ∧
        wr.ownsRow (w.heap.size + 3) 82 3 v k (flat (l1.take k)) ∧ Below w.heap.size w wr ∧ w.heap.size + 3 ≤ wr.heap.size)) (fun i _ => l1.length - (intOf i).toNat)
  case atStart =>
    refine ⟨0, _, by omega, rfl, Lib.hid ⟨?_, ?_, ?_, World.ownsRow_nil _ _ _ _, Joins.below_alloc3 _ _ _ _, by simp⟩⟩
    · exact ((Joins.below_alloc2 (w.alloc _) _ _).block _ (by simp)).trans (new_at _ _ _ rfl)
    · exact ((Joins.below_alloc1 ((w.alloc _).alloc _) _).block _ (by simp)).trans (new_at _ _ _ (by simp))
    · exact new_at _ _ _ (by simp)
  case round =>
    obtain ⟨k, v, hk, rfl, HI⟩ := hrel
    by_cases hlt : k < l1.length
    · obtain ⟨b0, b1, b2, own, bel, sz⟩ := HI.out
      rcases H1.out with hnil | ⟨b, o, rfl, hb, hc⟩
      · rw [hnil] at hlt; simp at hlt
      obtain ⟨x, hx⟩ : ∃ x, l1[k]? = some x := ⟨l1[k], by simp [hlt]⟩
      obtain ⟨c0, c1', c2'⟩ := lk_cells hc hx
      have k0 := cell_of_block b0 0
      have k1 := cell_of_block b0 1
      have k2 := cell_of_block b2 0
      have k3 := cell_of_block b2 1
      have f2 := unfrozen_of_block b2 0
      simp at k0 k1 k2 k3
      have c0 := (bel.cell (p := ⟨b, o + k * 3, none⟩) hb).trans c0
      have c1 := (bel.cell (p := ⟨b, o + k * 3 + 1, none⟩) hb).trans c1'
      have c2 := (bel.cell (p := ⟨b, o + k * 3 + 2, none⟩) hb).trans c2'
      have i1 : (0 : Int) ≤ (k : Int) := by omega
      have i2 : (k : Int) < (l1.length : Int) := by omega
      have a0 := own_ne own (B := w.heap.size) (by omega)
      have a1 := own_ne own (B := w.heap.size + 1 + 1) (by omega)
      have a2' := own_ne own (B := b) (by omega)
      go_wp2
      refine wp_cut (fun w' : World => w'.cell? ⟨w.heap.size + 1 + 1, 0, none⟩ = some v ∧ w'.cell? ⟨w.heap.size, 0, none⟩ = some (.slice (some ⟨b, o, none⟩) l1.length p1) ∧
          w'.cell? ⟨b, o + k * 3, none⟩ = some (.int .i64 x.t) ∧ w'.cell? ⟨b, o + k * 3 + 1, none⟩ = some (.string x.s) ∧ w'.cell? ⟨b, o + k * 3 + 2, none⟩ = some (.int .i64 x.m)) 9 (by kernel_rfl) (by kernel_rfl) (fun inv => ?_)
      ((refine anyT_take (i := 0) (v := ?_) rfl (by kernel_rfl) (by kernel_rfl) (by kernel_rfl) (fun _ _ _ h => h) (Or.inl ⟨by rfl, ?_⟩) ⟨k2, k0, c0, c1, c2⟩ inv (fun inv => ?_); rotate_left; (· (intro w hSw; (try dsimp only at hSw); go_simp; with_reducible rfl)); (try simp only [Act.put, List.getElem_toArray, List.getElem_cons_zero, List.getElem_cons_succ, List.setIfInBounds_toArray, List.set_cons_zero, List.set_cons_succ])); (refine anyT_take (i := 1) (v := ?_) rfl (by kernel_rfl) (by kernel_rfl) (by kernel_rfl) (fun _ _ _ h => h) (Or.inl ⟨by rfl, ?_⟩) ⟨k2, k0, c0, c1, c2⟩ inv (fun inv => ?_); rotate_left; (· (intro w hSw; (try dsimp only at hSw); go_simp; with_reducible rfl)); (try simp only [Act.put, List.getElem_toArray, List.getElem_cons_zero, List.getElem_cons_succ, List.setIfInBounds_toArray, List.set_cons_zero, List.set_cons_succ])); (refine anyT_take (i := 2) (v := ?_) rfl (by kernel_rfl) (by kernel_rfl) (by kernel_rfl) (fun _ _ _ h => h) (Or.inl ⟨by rfl, ?_⟩) ⟨k2, k0, c0, c1, c2⟩ inv (fun inv => ?_); rotate_left; (· (intro w hSw; (try dsimp only at hSw); go_simp; with_reducible rfl)); (try simp only [Act.put, List.getElem_toArray, List.getElem_cons_zero, List.getElem_cons_succ, List.setIfInBounds_toArray, List.set_cons_zero, List.set_cons_succ])); (refine anyT_take (i := 3) (v := ?_) rfl (by kernel_rfl) (by kernel_rfl) (by kernel_rfl) (fun _ _ _ h => h) (Or.inl ⟨by rfl, ?_⟩) ⟨k2, k0, c0, c1, c2⟩ inv (fun inv => ?_); rotate_left; (· (intro w hSw; (try dsimp only at hSw); go_simp; with_reducible rfl)); (try simp only [Act.put, List.getElem_toArray, List.getElem_cons_zero, List.getElem_cons_succ, List.setIfInBounds_toArray, List.set_cons_zero, List.set_cons_succ])); (refine anyT_take (i := 4) (v := ?_) rfl (by kernel_rfl) (by kernel_rfl) (by kernel_rfl) (fun _ _ _ h => h) (Or.inl ⟨by rfl, ?_⟩) ⟨k2, k0, c0, c1, c2⟩ inv (fun inv => ?_); rotate_left; (· (intro w hSw; (try dsimp only at hSw); go_simp; with_reducible rfl)); (try simp only [Act.put, List.getElem_toArray, List.getElem_cons_zero, List.getElem_cons_succ, List.setIfInBounds_toArray, List.set_cons_zero, List.set_cons_succ])); (refine anyT_take (i := 5) (v := ?_) rfl (by kernel_rfl) (by kernel_rfl) (by kernel_rfl) (fun _ _ _ h => h) (Or.inl ⟨by rfl, ?_⟩) ⟨k2, k0, c0, c1, c2⟩ inv (fun inv => ?_); rotate_left; (· (intro w hSw; (try dsimp only at hSw); go_simp; with_reducible rfl)); (try simp only [Act.put, List.getElem_toArray, List.getElem_cons_zero, List.getElem_cons_succ, List.setIfInBounds_toArray, List.set_cons_zero, List.set_cons_succ])); (refine anyT_take (i := 6) (v := ?_) rfl (by kernel_rfl) (by kernel_rfl) (by kernel_rfl) (fun _ _ _ h => h) (Or.inl ⟨by rfl, ?_⟩) ⟨k2, k0, c0, c1, c2⟩ inv (fun inv => ?_); rotate_left; (· (intro w hSw; (try dsimp only at hSw); go_simp; with_reducible rfl)); (try simp only [Act.put, List.getElem_toArray, List.getElem_cons_zero, List.getElem_cons_succ, List.setIfInBounds_toArray, List.set_cons_zero, List.set_cons_succ])))
      refine anyT_step (i := 7) rfl (by kernel_rfl) (by decide) inv (fun K hK => ?_)
      go_simp
      have q0 : ∀ y, Below w.heap.size wr (wr.alloc y) := fun y => (Below.refl _ _).alloc (by omega) _
      have far : ∀ (y : Obj) (B o : Nat), B < wr.heap.size → (wr.alloc y).drew.cell? ⟨B, o, none⟩ = wr.cell? ⟨B, o, none⟩ := fun y B o h => (Joins.below_alloc1 wr y).cell (p := ⟨B, o, none⟩) h
      (refine hK _ _ ⟨(far _ _ _ (by omega)).trans k2, (far _ _ _ (by omega)).trans k0, (far _ _ _ (by omega)).trans c0, (far _ _ _ (by omega)).trans c1, (far _ _ _ (by omega)).trans c2⟩ (fun inv => ?_); clear hK K; (try simp only [Act.put, List.getElem_toArray, List.getElem_cons_zero, List.getElem_cons_succ, List.setIfInBounds_toArray, List.set_cons_zero, List.set_cons_succ]))
      refine anyT_step (i := 8) rfl (by kernel_rfl) (by decide) inv (fun K hK => ?_)
      refine step_append_lies _ (by rfl) _ _ _ (by rfl) (w.heap.size + 3) 82 i0 _ 3 32 Tryd.underlying39 hi0 hz0 hz1 hz2 rfl (by omega) v k (flat (l1.take k)) (by rfl) ((own.alloc _).drew) ⟨wr.heap.size, 0, none⟩ 1 1 [.int .i64 x.t, .string x.s, .int .i64 x.m] (by rfl) (by rfl) (World.news_of_block (cs := #[.int .i64 x.t, .string x.s, .int .i64 x.m]) (t := 82) (fr := (0, 0)) (heap_alloc_new wr _)) (by simp [Value.oneCell']) (by omega) (by unfold maxLen; omega) (by omega) (by simp; omega) (wr.heap.size + 1) (by simp) ?_
      intro g cap w1 hown1 hgrow hat hlt'
      have near : ∀ (B o : Nat), B < wr.heap.size → v.ownBlock ≠ some B → w1.cell? ⟨B, o, none⟩ = wr.cell? ⟨B, o, none⟩ := fun B o h hne => (hgrow.cell_far ⟨B, o, none⟩ (by simp; omega) (Ne.symm hne)).trans (far _ _ _ h)
      (refine hK _ _ ⟨(near _ _ (by omega) a1).trans k2, (near _ _ (by omega) a0).trans k0, (near _ _ (by omega) a2').trans c0, (near _ _ (by omega) a2').trans c1, (near _ _ (by omega) a2').trans c2⟩ (fun inv => ?_); clear hK K; (try simp only [Act.put, List.getElem_toArray, List.getElem_cons_zero, List.getElem_cons_succ, List.setIfInBounds_toArray, List.set_cons_zero, List.set_cons_succ]))
      (refine anyT_end (by kernel_rfl) ?_; simp only [List.drop_succ_cons, List.drop_zero])
      have hal : ∀ (y : Obj) (B : Nat), B < wr.heap.size → (wr.alloc y).drew.heap[B]? = wr.heap[B]? := fun y B h => (Joins.below_alloc1 wr y).block B h
      have e1 := flat_succ l1 k x hx
      have g0 := fun u => stay_block (o := 0) (C := w.heap.size + 1 + 1) (u := u) (hal _ _ (by omega)) (by simp) hgrow (B := w.heap.size) (by omega) a0 (by omega)
      have g1 := fun u => stay_block (o := 0) (C := w.heap.size + 1 + 1) (u := u) (hal _ _ (by omega)) (by simp) hgrow (B := w.heap.size + 1) (by omega) (own_ne own (by omega)) (by omega)
      have g2 : w1.heap[w.heap.size + 1 + 1]? = some (.cells #[v, .slice none 0 0] 41 (0, 0)) := (hgrow.block _ (by simp; omega) (Ne.symm a1)).trans ((hal _ _ (by omega)).trans b2)
      have f2 := unfrozen_of_block g2 0
      have k2 := cell_of_block g2 0
      simp at k2
      have G0 := Lib.hid g0
      have G1 := Lib.hid g1
      have G2 := Lib.hid g2
      have E1 := Lib.hid e1
      clear g0 g1 g2 e1 hal near far q0
      go_wp2
      go_roundw
      case rel =>
        refine ⟨k + 1, _, by omega, by go_num, Lib.hid ⟨(G0.out _).trans b0, (G1.out _).trans b1, block_setCell G2.out _, ?_, ?_, ?_⟩⟩
        · rw [E1.out]
          exact ownsRow_setCell_below hown1 (by simp) _
        · refine ((bel.alloc (by omega) _).drew.grown hgrow (by simp; omega) ?_).setCell (by simp; omega) _
          intro g' hg'
          have := (own_lt own hg').1
          omega
        · have := hgrow.size
          simp at this ⊢
          omega
      case measure => simp [intOf]; omega
    · obtain rfl : k = l1.length := by omega
      obtain ⟨b0, b1, b2, own, bel, sz⟩ := HI.out
      rw [List.take_length] at own
      have ownlt : ∀ g, v.ownBlock = some g → g < wr.heap.size := fun g hg => (own_lt own hg).2
      have I0 := Lib.hid b0
      have I1 := Lib.hid b1
      have I2 := Lib.hid b2
      have IOw := Lib.hid own
      have IL := Lib.hid ownlt
      have IB := Lib.hid bel
      have k0 := cell_of_block b0 0
      simp at k0
      clear HI b0 b1 b2 own bel ownlt
      rename World => W2
      rename Value => v1
      go_wp2
      have k1 := cell_of_block I0.out 1
      simp at k1
      go_loopw [5] (fun i wr => ∃ (k : Nat) (v : Value), k ≤ l2.length ∧ i = .int .i64 k ∧
          Hid (wr.heap[w.heap.size]? = some (.cells #[.slice a1 l1.length p1, .slice a2 l2.length p2] 41 (0, 0)) ∧
            wr.heap[w.heap.size + 1]? = some (.cells #[.slice none 0 0, .slice none 0 0] 41 (0, 0)) ∧
            wr.heap[w.heap.size + 1 + 1]? = some (.cells #[v1, v] 41 (0, 0)) ∧
            wr.ownsRow (w.heap.size + 3) 82 3 v1 l1.length (flat l1) ∧
            wr.ownsRow W2.heap.size 82 3 v k (flat (l2.take k)) ∧ Below w.heap.size w wr ∧ W2.heap.size ≤ wr.heap.size)) (fun i _ => l2.length - (intOf i).toNat)
      case atStart => exact ⟨0, _, by omega, rfl, Lib.hid ⟨I0.out, I1.out, I2.out, IOw.out, World.ownsRow_nil _ _ _ _, IB.out, Nat.le_refl _⟩⟩
      case round =>
        obtain ⟨k, v, hk, rfl, HI⟩ := hrel
        by_cases hlt : k < l2.length
        · obtain ⟨b0, b1, b2, own0, own, bel, sz2⟩ := HI.out
          rcases H2.out with hnil | ⟨b, o, rfl, hb, hc⟩
          · rw [hnil] at hlt; simp at hlt
          obtain ⟨x, hx⟩ : ∃ x, l2[k]? = some x := ⟨l2[k], by simp [hlt]⟩
          obtain ⟨c0, c1', c2'⟩ := lk_cells hc hx
          have k0 := cell_of_block b0 0
          have k1 := cell_of_block b0 1
          have k2 := cell_of_block b2 0
          have k3 := cell_of_block b2 1
          have f2 := unfrozen_of_block b2 1
          simp at k0 k1 k2 k3
          have c0 := (bel.cell (p := ⟨b, o + k * 3, none⟩) hb).trans c0
          have c1 := (bel.cell (p := ⟨b, o + k * 3 + 1, none⟩) hb).trans c1'
          have c2 := (bel.cell (p := ⟨b, o + k * 3 + 2, none⟩) hb).trans c2'
          have i1 : (0 : Int) ≤ (k : Int) := by omega
          have i2 : (k : Int) < (l2.length : Int) := by omega
          have a0 := own_ne own (B := w.heap.size) (by omega)
          have a1' := own_ne own (B := w.heap.size + 1 + 1) (by omega)
          have a2' := own_ne own (B := b) (by omega)
          go_wp2
          refine wp_cut (fun w' : World => w'.cell? ⟨w.heap.size + 1 + 1, 1, none⟩ = some v ∧ w'.cell? ⟨w.heap.size, 1, none⟩ = some (.slice (some ⟨b, o, none⟩) l2.length p2) ∧
              w'.cell? ⟨b, o + k * 3, none⟩ = some (.int .i64 x.t) ∧ w'.cell? ⟨b, o + k * 3 + 1, none⟩ = some (.string x.s) ∧ w'.cell? ⟨b, o + k * 3 + 2, none⟩ = some (.int .i64 x.m)) 9 (by kernel_rfl) (by kernel_rfl) (fun inv => ?_)
          ((refine anyT_take (i := 0) (v := ?_) rfl (by kernel_rfl) (by kernel_rfl) (by kernel_rfl) (fun _ _ _ h => h) (Or.inl ⟨by rfl, ?_⟩) ⟨k3, k1, c0, c1, c2⟩ inv (fun inv => ?_); rotate_left; (· (intro w hSw; (try dsimp only at hSw); go_simp; with_reducible rfl)); (try simp only [Act.put, List.getElem_toArray, List.getElem_cons_zero, List.getElem_cons_succ, List.setIfInBounds_toArray, List.set_cons_zero, List.set_cons_succ])); (refine anyT_take (i := 1) (v := ?_) rfl (by kernel_rfl) (by kernel_rfl) (by kernel_rfl) (fun _ _ _ h => h) (Or.inl ⟨by rfl, ?_⟩) ⟨k3, k1, c0, c1, c2⟩ inv (fun inv => ?_); rotate_left; (· (intro w hSw; (try dsimp only at hSw); go_simp; with_reducible rfl)); (try simp only [Act.put, List.getElem_toArray, List.getElem_cons_zero, List.getElem_cons_succ, List.setIfInBounds_toArray, List.set_cons_zero, List.set_cons_succ])); (refine anyT_take (i := 2) (v := ?_) rfl (by kernel_rfl) (by kernel_rfl) (by kernel_rfl) (fun _ _ _ h => h) (Or.inl ⟨by rfl, ?_⟩) ⟨k3, k1, c0, c1, c2⟩ inv (fun inv => ?_); rotate_left; (· (intro w hSw; (try dsimp only at hSw); go_simp; with_reducible rfl)); (try simp only [Act.put, List.getElem_toArray, List.getElem_cons_zero, List.getElem_cons_succ, List.setIfInBounds_toArray, List.set_cons_zero, List.set_cons_succ])); (refine anyT_take (i := 3) (v := ?_) rfl (by kernel_rfl) (by kernel_rfl) (by kernel_rfl) (fun _ _ _ h => h) (Or.inl ⟨by rfl, ?_⟩) ⟨k3, k1, c0, c1, c2⟩ inv (fun inv => ?_); rotate_left; (· (intro w hSw; (try dsimp only at hSw); go_simp; with_reducible rfl)); (try simp only [Act.put, List.getElem_toArray, List.getElem_cons_zero, List.getElem_cons_succ, List.setIfInBounds_toArray, List.set_cons_zero, List.set_cons_succ])); (refine anyT_take (i := 4) (v := ?_) rfl (by kernel_rfl) (by kernel_rfl) (by kernel_rfl) (fun _ _ _ h => h) (Or.inl ⟨by rfl, ?_⟩) ⟨k3, k1, c0, c1, c2⟩ inv (fun inv => ?_); rotate_left; (· (intro w hSw; (try dsimp only at hSw); go_simp; with_reducible rfl)); (try simp only [Act.put, List.getElem_toArray, List.getElem_cons_zero, List.getElem_cons_succ, List.setIfInBounds_toArray, List.set_cons_zero, List.set_cons_succ])); (refine anyT_take (i := 5) (v := ?_) rfl (by kernel_rfl) (by kernel_rfl) (by kernel_rfl) (fun _ _ _ h => h) (Or.inl ⟨by rfl, ?_⟩) ⟨k3, k1, c0, c1, c2⟩ inv (fun inv => ?_); rotate_left; (· (intro w hSw; (try dsimp only at hSw); go_simp; with_reducible rfl)); (try simp only [Act.put, List.getElem_toArray, List.getElem_cons_zero, List.getElem_cons_succ, List.setIfInBounds_toArray, List.set_cons_zero, List.set_cons_succ])); (refine anyT_take (i := 6) (v := ?_) rfl (by kernel_rfl) (by kernel_rfl) (by kernel_rfl) (fun _ _ _ h => h) (Or.inl ⟨by rfl, ?_⟩) ⟨k3, k1, c0, c1, c2⟩ inv (fun inv => ?_); rotate_left; (· (intro w hSw; (try dsimp only at hSw); go_simp; with_reducible rfl)); (try simp only [Act.put, List.getElem_toArray, List.getElem_cons_zero, List.getElem_cons_succ, List.setIfInBounds_toArray, List.set_cons_zero, List.set_cons_succ])))
          refine anyT_step (i := 7) rfl (by kernel_rfl) (by decide) inv (fun K hK => ?_)
          go_simp
          have far : ∀ (y : Obj) (B o : Nat), B < wr.heap.size → (wr.alloc y).drew.cell? ⟨B, o, none⟩ = wr.cell? ⟨B, o, none⟩ := fun y B o h => (Joins.below_alloc1 wr y).cell (p := ⟨B, o, none⟩) h
          (refine hK _ _ ⟨(far _ _ _ (by omega)).trans k3, (far _ _ _ (by omega)).trans k1, (far _ _ _ (by omega)).trans c0, (far _ _ _ (by omega)).trans c1, (far _ _ _ (by omega)).trans c2⟩ (fun inv => ?_); clear hK K; (try simp only [Act.put, List.getElem_toArray, List.getElem_cons_zero, List.getElem_cons_succ, List.setIfInBounds_toArray, List.set_cons_zero, List.set_cons_succ]))
          refine anyT_step (i := 8) rfl (by kernel_rfl) (by decide) inv (fun K hK => ?_)
          refine step_append_lies _ (by rfl) _ _ _ (by rfl) W2.heap.size 82 i0 _ 3 32 Tryd.underlying39 hi0 hz0 hz1 hz2 rfl (by omega) v k (flat (l2.take k)) (by rfl) ((own.alloc _).drew) ⟨wr.heap.size, 0, none⟩ 1 1 [.int .i64 x.t, .string x.s, .int .i64 x.m] (by rfl) (by rfl) (World.news_of_block (cs := #[.int .i64 x.t, .string x.s, .int .i64 x.m]) (t := 82) (fr := (0, 0)) (heap_alloc_new wr _)) (by simp [Value.oneCell']) (by omega) (by unfold maxLen; omega) (by omega) (by simp; omega) (wr.heap.size + 1) (by simp) ?_
          intro g cap w1 hown1 hgrow hat hlt'
          have near : ∀ (B o : Nat), B < wr.heap.size → v.ownBlock ≠ some B → w1.cell? ⟨B, o, none⟩ = wr.cell? ⟨B, o, none⟩ := fun B o h hne => (hgrow.cell_far ⟨B, o, none⟩ (by simp; omega) (Ne.symm hne)).trans (far _ _ _ h)
          (refine hK _ _ ⟨(near _ _ (by omega) a1').trans k3, (near _ _ (by omega) a0).trans k1, (near _ _ (by omega) a2').trans c0, (near _ _ (by omega) a2').trans c1, (near _ _ (by omega) a2').trans c2⟩ (fun inv => ?_); clear hK K; (try simp only [Act.put, List.getElem_toArray, List.getElem_cons_zero, List.getElem_cons_succ, List.setIfInBounds_toArray, List.set_cons_zero, List.set_cons_succ]))
          (refine anyT_end (by kernel_rfl) ?_; simp only [List.drop_succ_cons, List.drop_zero])
          have hal : ∀ (y : Obj) (B : Nat), B < wr.heap.size → (wr.alloc y).drew.heap[B]? = wr.heap[B]? := fun y B h => (Joins.below_alloc1 wr y).block B h
          have e1 := flat_succ l2 k x hx
          have g0 := fun u => stay_block (o := 1) (C := w.heap.size + 1 + 1) (u := u) (hal _ _ (by omega)) (by simp) hgrow (B := w.heap.size) (by omega) a0 (by omega)
          have g1 := fun u => stay_block (o := 1) (C := w.heap.size + 1 + 1) (u := u) (hal _ _ (by omega)) (by simp) hgrow (B := w.heap.size + 1) (by omega) (own_ne own (by omega)) (by omega)
          have go : ∀ u, (w1.setCell ⟨w.heap.size + 1 + 1, 1, none⟩ u).ownsRow (w.heap.size + 3) 82 3 v1 l1.length (flat l1) := fun u => own_kept own0 (fun g hg => by
            have h1 := own_lt own0 hg
            have h2 := IL.out g hg
            exact stay_block (o := 1) (C := w.heap.size + 1 + 1) (u := u) (hal _ _ (by omega)) (by simp) hgrow (B := g) (by omega) (own_ne own (by omega)) (by omega))
          have g2 : w1.heap[w.heap.size + 1 + 1]? = some (.cells #[v1, v] 41 (0, 0)) := (hgrow.block _ (by simp; omega) (Ne.symm a1')).trans ((hal _ _ (by omega)).trans b2)
          have f2 := unfrozen_of_block g2 1
          have k2 := cell_of_block g2 1
          simp at k2
          have G0 := Lib.hid g0
          have G1 := Lib.hid g1
          have G2 := Lib.hid g2
          have GO := Lib.hid go
          have E1 := Lib.hid e1
          clear g0 g1 g2 e1 hal near far go
          go_wp2
          go_roundw
          case rel =>
            refine ⟨k + 1, _, by omega, by go_num, Lib.hid ⟨(G0.out _).trans b0, (G1.out _).trans b1, block_setCell G2.out _, GO.out _, ?_, ?_, ?_⟩⟩
            · rw [E1.out]
              exact ownsRow_setCell_below hown1 (by simp; omega) _
            · refine ((bel.alloc (by omega) _).drew.grown hgrow (by simp; omega) ?_).setCell (by simp; omega) _
              intro g' hg'
              have := (own_lt own hg').1
              omega
            · have := hgrow.size
              simp at this ⊢
              omega
          case measure => simp [intOf]; omega
        · obtain rfl : k = l2.length := by omega
          obtain ⟨b0, b1, b2, own0, own, bel, sz2⟩ := HI.out
          rw [List.take_length] at own
          obtain ⟨-, x1, d1, rfl, -, -, le1⟩ := lks_of_owns own0
          obtain ⟨-, x2, d2, rfl, -, -, le2⟩ := lks_of_owns own
          have k1 := cell_of_block b0 1
          have k2 := cell_of_block b2 0
          have k3 := cell_of_block b2 1
          have f1 := unfrozen_of_block b1 0
          have f1' := unfrozen_of_block b1 1
          have k4 := cell_of_block b1 0
          have k5 := cell_of_block b1 1
          simp at k1 k2 k3 k4 k5
          have J1 := Lib.hid own0
          have J2 := Lib.hid own
          clear own0 own b0 b1 b2 HI
          go_wp2
          ((try simp only [Exit.inBlock, Exit.then]); go_light; refine bodyPost_ret (by simp [results, Tryd.results19, go_sem, *]; try rfl) rfl ?_)
          refine ⟨⟨_, _, rfl, ?_, ?_, ?_⟩, ?_⟩
          · exact Joins.ownsRow_le (ownsRow_setCell_below (a := ⟨w.heap.size + 1, 1, none⟩) (ownsRow_setCell_below (a := ⟨w.heap.size + 1, 0, none⟩) J1.out (by simp) _) (by simp) _) (by omega)
          · exact Joins.ownsRow_le (ownsRow_setCell_below (a := ⟨w.heap.size + 1, 1, none⟩) (ownsRow_setCell_below (a := ⟨w.heap.size + 1, 0, none⟩) J2.out (by simp; omega) _) (by simp; omega) _) (by omega)
          · intro g h1 h2
            have q1 := IL.out g h1
            have q2 := (own_lt J2.out h2).1
            omega
          · exact (bel.setCell (p := ⟨w.heap.size + 1, 0, none⟩) (by simp) _).setCell (p := ⟨w.heap.size + 1, 1, none⟩) (by simp) _
theorem copy_any (a1 a2 : Option Addr) (l1 l2 : List LK) (p1 p2 : Nat) (w : World) (h1 : LksAt w a1 l1) (h2 : LksAt w a2 l2) (n1 : l1.length ≤ 1048576) (n2 : l2.length ≤ 1048576) :
    Calls Tryd.prog 19 #[.agg #[.slice a1 l1.length p1, .slice a2 l2.length p2]] w fun e w' =>
      (∃ b1 b2 d1 d2, e = .returned (.agg #[.slice b1 l1.length d1, .slice b2 l2.length d2]) ∧ LksAt w' b1 l1 ∧ LksAt w' b2 l2 ∧ l1.length ≤ d1 ∧ l2.length ≤ d2) ∧ Below w.heap.size w w' :=
  (copy_own a1 a2 l1 l2 p1 p2 w h1 h2 n1 n2).mono fun e w' h => by
    obtain ⟨⟨v1, v2, he, o1, o2, _⟩, hb⟩ := h
    obtain ⟨-, b1, d1, rfl, g1, -, le1⟩ := lks_of_owns o1
    obtain ⟨-, b2, d2, rfl, g2, -, le2⟩ := lks_of_owns o2
    exact ⟨⟨b1, b2, d1, d2, he, g1, g2, le1, le2⟩, hb⟩
end Go.Proofs.YteebiklebedneaaDoor
/- sameLocks of equal lists; the reference's modeOf, against, aheadOf, waitsFor. -/
namespace Go.Proofs.YteebiklebedneaaDoor
open Go.RowKit Go.Joins
/-- Cells of an element, read in a later world. -/
theorem SlAt.at {w : World} {a : Option Addr} {l : List LK} (h : LksAt w a l) {j : Nat} {x : LK} (hj : l[j]? = some x) : ∃ b o, a = some ⟨b, o, none⟩ ∧ b < w.heap.size ∧ w.cell? ⟨b, o + j * 3, none⟩ = some (.int .i64 x.t) ∧ w.cell? ⟨b, o + j * 3 + 1, none⟩ = some (.string x.s) ∧ w.cell? ⟨b, o + j * 3 + 2, none⟩ = some (.int .i64 x.m) := by
  rcases h with rfl | ⟨b, o, rfl, hb, hc⟩
  · simp at hj
  · exact ⟨b, o, rfl, hb, lk_cells hc hj⟩
theorem cell_drewN (w : World) (n : Nat) (a : Addr) : (w.drewN n).cell? a = w.cell? a := rfl
theorem drewN_drewN (w : World) (n m : Nat) : (w.drewN n).drewN m = w.drewN (n + m) := by simp [World.drewN, Nat.add_assoc]
set_option maxRecDepth 100000 in
set_option maxHeartbeats 2000000 in
theorem sameLocks_any (a1 a2 b1 b2 : Option Addr) (l1 l2 : List LK) (p1 p2 d1 d2 : Nat) (w : World) (h1 : LksAt w a1 l1) (h2 : LksAt w a2 l2) (h3 : LksAt w b1 l1) (h4 : LksAt w b2 l2) (n1 : l1.length ≤ 1048576) (n2 : l2.length ≤ 1048576) :
    Calls Tryd.prog 23 #[.agg #[.slice a1 l1.length p1, .slice a2 l2.length p2], .agg #[.slice b1 l1.length d1, .slice b2 l2.length d2]] w fun e w' => e = .returned (.bool true) ∧ Below w.heap.size w w' := by
  have bel := Joins.below_alloc2 w (.cells #[.slice a1 l1.length p1, .slice a2 l2.length p2] 41) (.cells #[.slice b1 l1.length d1, .slice b2 l2.length d2] 41)
  have k0 : ((w.alloc (.cells #[.slice a1 l1.length p1, .slice a2 l2.length p2] 41)).alloc (.cells #[.slice b1 l1.length d1, .slice b2 l2.length d2] 41)).cell? ⟨w.heap.size, 0, none⟩ = some (.slice a1 l1.length p1) := by simp
  have k1 : ((w.alloc (.cells #[.slice a1 l1.length p1, .slice a2 l2.length p2] 41)).alloc (.cells #[.slice b1 l1.length d1, .slice b2 l2.length d2] 41)).cell? ⟨w.heap.size, 1, none⟩ = some (.slice a2 l2.length p2) := by simp
  have k2 : ((w.alloc (.cells #[.slice a1 l1.length p1, .slice a2 l2.length p2] 41)).alloc (.cells #[.slice b1 l1.length d1, .slice b2 l2.length d2] 41)).cell? ⟨w.heap.size + 1, 0, none⟩ = some (.slice b1 l1.length d1) := by simp
  have k3 : ((w.alloc (.cells #[.slice a1 l1.length p1, .slice a2 l2.length p2] 41)).alloc (.cells #[.slice b1 l1.length d1, .slice b2 l2.length d2] 41)).cell? ⟨w.heap.size + 1, 1, none⟩ = some (.slice b2 l2.length d2) := by simp
  have K := And.intro bel (And.intro k0 (And.intro k1 (And.intro k2 k3)))
  have H1 := Lib.hid (h1.below bel (Nat.le_refl _))
  have H2 := Lib.hid (h2.below bel (Nat.le_refl _))
  have H3 := Lib.hid (h3.below bel (Nat.le_refl _))
  have H4 := Lib.hid (h4.below bel (Nat.le_refl _))
  have KK := Lib.hid K
  clear h1 h2 h3 h4 bel k0 k1 k2 k3 K
  go_enter Tryd.func23, Tryd.ntmps23
  go_wp2
  generalize hW : ((w.alloc (.cells #[.slice a1 l1.length p1, .slice a2 l2.length p2] 41)).alloc (.cells #[.slice b1 l1.length d1, .slice b2 l2.length d2] 41)) = W at H1 H2 H3 H4 KK ⊢
  obtain ⟨bel, k0, k1, k2, k3⟩ := KK.out
  have BEL := Lib.hid bel
  clear bel hW KK
  go_loopw [5] (fun i wr => ∃ k n : Nat, k ≤ l1.length ∧ i = .int .i64 k ∧ wr = W.drewN n) (fun i _ => l1.length - (intOf i).toNat)
  case atStart => exact ⟨0, _, by omega, rfl, (World.drewN_zero W).symm⟩
  case round =>
    obtain ⟨k, n, hk, rfl, rfl⟩ := hrel
    by_cases hlt : k < l1.length
    · obtain ⟨x, hx⟩ : ∃ x, l1[k]? = some x := ⟨l1[k], by simp [hlt]⟩
      obtain ⟨b, o, rfl, hb, q0, q1, q2⟩ := H1.out.at hx
      obtain ⟨b', o', rfl, hb', q3, q4, q5⟩ := H3.out.at hx
      obtain ⟨xt, xs, xm⟩ := x
      simp only at q0 q1 q2 q3 q4 q5
      have i1 : (0 : Int) ≤ (k : Int) := by omega
      have i2 : (k : Int) < (l1.length : Int) := by omega
      go_wp2
      go_quiet (fail)
      go_wp2
      go_roundw
      case rel => exact ⟨k + 1, _, by omega, by go_num, rfl⟩
      case measure => simp [intOf]; omega
    · obtain rfl : k = l1.length := by omega
      go_wp2
      go_loopw [6] (fun i wr => ∃ k n : Nat, k ≤ l2.length ∧ i = .int .i64 k ∧ wr = W.drewN n) (fun i _ => l2.length - (intOf i).toNat)
      case atStart => exact ⟨0, _, by omega, rfl, rfl⟩
      case round =>
        obtain ⟨k, n, hk, rfl, rfl⟩ := hrel
        by_cases hlt : k < l2.length
        · obtain ⟨x, hx⟩ : ∃ x, l2[k]? = some x := ⟨l2[k], by simp [hlt]⟩
          obtain ⟨b, o, rfl, hb, q0, q1, q2⟩ := H2.out.at hx
          obtain ⟨b', o', rfl, hb', q3, q4, q5⟩ := H4.out.at hx
          obtain ⟨xt, xs, xm⟩ := x
          simp only at q0 q1 q2 q3 q4 q5
          have i1 : (0 : Int) ≤ (k : Int) := by omega
          have i2 : (k : Int) < (l2.length : Int) := by omega
          go_wp2
          go_quiet (fail)
          go_wp2
          go_roundw
          case rel => exact ⟨k + 1, _, by omega, by go_num, rfl⟩
          case measure => simp [intOf]; omega
        · obtain rfl : k = l2.length := by omega
          go_wp2
          go_ret
          exact ⟨rfl, below_drewN BEL.out⟩
end Go.Proofs.YteebiklebedneaaDoor
/- The reference's Join; the law of Join. -/
namespace Go.Proofs.YteebiklebedneaaDoor
open Go.RowKit
/-- Does mode m do what either does, as far as the first j of the four things go? -/
def upM (a b m : Int) : Nat → Bool
  | 0 => true
  | j + 1 => upM a b m j && !((hasM a (2 ^ j) || hasM b (2 ^ j)) && !hasM m (2 ^ j))
def joinFrom (a b : Int) : Nat → Int → Int
  | 0, _ => 0
  | f + 1, m => if upM a b m 4 then m else joinFrom a b f (m + 1)
theorem pow4 {j : Nat} (h : j ≤ 4) : j = 0 ∨ j = 1 ∨ j = 2 ∨ j = 3 ∨ j = 4 := by omega
theorem joined_any (a b : Int) (w : World) : Calls Tryd.prog 87 #[.int .i64 a, .int .i64 b] w fun e w' => e = .returned (.int .i64 (joinFrom a b 5 1)) ∧ w = w' := by
  go_enter Tryd.func87, Tryd.ntmps87
  go_wp2
  go_loop [5] (fun v => ∃ m : Nat, 1 ≤ m ∧ m ≤ 6 ∧ v = .int .i64 m ∧ joinFrom a b 5 1 = joinFrom a b (6 - m) m) (fun v => 6 - (intOf v).toNat)
  case atStart => exact ⟨1, by omega, by omega, rfl, rfl⟩
  case round =>
    obtain ⟨m, h1, h6, rfl, hj⟩ := hrel
    have HJ := Lib.hid hj
    clear hj
    by_cases hm : m ≤ 5
    · go_wp2
      go_loop [6, 7] (fun al wh => ∃ j : Nat, j ≤ 4 ∧ wh = .int .i64 ((2 : Int) ^ j) ∧ al = .bool (upM a b m j)) (fun _ wh => 16 - (intOf wh).toNat)
      case atStart => exact ⟨0, by omega, rfl, rfl⟩
      case round =>
        obtain ⟨j, hj4, rfl, rfl⟩ := hrel
        rcases pow4 hj4 with rfl | rfl | rfl | rfl | rfl
        · simp only [Int.pow_zero]
          go_wp2_with (go_at_call 105; refine (has_any _ _ _ (by omega) (by omega)).mono ?_; rintro e w1 ⟨rfl, rfl⟩)
          all_goals
            go_round
            case rel => exact ⟨1, by omega, rfl, by go_light; simp_all [upM]⟩
            case measure => simp [intOf]
        · simp only [show (2 : Int) ^ 1 = 2 by rfl]
          go_wp2_with (go_at_call 105; refine (has_any _ _ _ (by omega) (by omega)).mono ?_; rintro e w1 ⟨rfl, rfl⟩)
          all_goals
            go_round
            case rel => exact ⟨2, by omega, rfl, by go_light; simp_all [upM]⟩
            case measure => simp [intOf]
        · simp only [show (2 : Int) ^ 2 = 4 by rfl]
          go_wp2_with (go_at_call 105; refine (has_any _ _ _ (by omega) (by omega)).mono ?_; rintro e w1 ⟨rfl, rfl⟩)
          all_goals
            go_round
            case rel => exact ⟨3, by omega, rfl, by go_light; simp_all [upM]⟩
            case measure => simp [intOf]
        · simp only [show (2 : Int) ^ 3 = 8 by rfl]
          go_wp2_with (go_at_call 105; refine (has_any _ _ _ (by omega) (by omega)).mono ?_; rintro e w1 ⟨rfl, rfl⟩)
          all_goals
            go_round
            case rel => exact ⟨4, by omega, rfl, by go_light; simp_all [upM]⟩
            case measure => simp [intOf]
        · simp only [show (2 : Int) ^ 4 = 16 by rfl]
          cases hu : upM a b m 4
          · go_wp2_with (go_at_call 105; refine (has_any _ _ _ (by omega) (by omega)).mono ?_; rintro e w1 ⟨rfl, rfl⟩)
            go_round
            case rel => exact ⟨m + 1, by omega, by omega, by go_num, by rw [HJ.out, show 6 - m = (6 - (m + 1)) + 1 by omega, joinFrom, hu]; rfl⟩
            case measure => simp [intOf]; omega
          · go_wp2_with (go_at_call 105; refine (has_any _ _ _ (by omega) (by omega)).mono ?_; rintro e w1 ⟨rfl, rfl⟩)
            go_ret
            go_light
            refine ⟨?_, rfl⟩
            rw [HJ.out, show 6 - m = (6 - (m + 1)) + 1 by omega, joinFrom, hu]; rfl
    · obtain rfl : m = 6 := by omega
      go_wp2
      go_ret
      go_light
      refine ⟨?_, rfl⟩
      rw [HJ.out]; rfl
theorem joined_eq (a b : Int) (h1 : 1 ≤ a) (h2 : a ≤ 5) (h3 : 1 ≤ b) (h4 : b ≤ 5) : joinFrom a b 5 1 = joinB a b := by
  rcases modes_cases h1 h2 with rfl | rfl | rfl | rfl | rfl <;> rcases modes_cases h3 h4 with rfl | rfl | rfl | rfl | rfl <;> decide
end Go.Proofs.YteebiklebedneaaDoor
/- free; the reference's modeOf, against, aheadOf, waitsFor. -/
namespace Go.Proofs.YteebiklebedneaaDoor
open Go.RowKit Go.Joins
theorem free_any (a : Option Addr) (l : List LK) (cap : Nat) (x : LK) (w : World) (hl : LksAt w a l) (hn : l.length ≤ 9223372036854775807) (hT : TabFits w) (hx : modeB x.m = true) (hm : ∀ y ∈ l, modeB y.m = true) :
    Calls Tryd.prog 80 #[.slice a l.length cap, .agg #[.int .i64 x.t, .string x.s, .int .i64 x.m]] w fun e w' => e = .returned (.bool (!l.any (agK x))) ∧ Below w.heap.size w w' := by
  have b1 : ∀ y, Below w.heap.size w (w.alloc y) := fun y => Joins.below_alloc1 w y
  have hcon := fun t => containsFunc_any a l cap 103 #[.pointer (some ⟨w.heap.size, 0, none⟩)] (agK x) (w.alloc (.cells #[.int .i64 x.t, .string x.s, .int .i64 x.m] t)) enters58 (hl.below (b1 _) (Nat.le_refl _)) (free1_pred x _ l _ (by simp) (hT.below (b1 _) hT.lt) (by simp) (by simp) (by simp) hx hm) hn
  have HC := Lib.hid hcon
  have HB := Lib.hid b1
  clear hcon hl b1 hT hm
  obtain ⟨t, s, m⟩ := x
  generalize l.any (agK ⟨t, s, m⟩) = r at HC
  go_enter Tryd.func80, Tryd.ntmps80
  go_wp2_with (go_at_call 76; refine (HC.out _).mono ?_; rintro e w' ⟨rfl, hb'⟩)
  go_ret
  exact ⟨rfl, (HB.out _).trans (hb'.mono (by simp))⟩
/-- The mode in which it is had; 0: it is not. -/
def modeM (txn : Int) (thing : ByteArray) : List LK → Int
  | [] => 0
  | x :: r => if isK txn thing x = true then x.m else modeM txn thing r
theorem drop_cons {l : List LK} {k : Nat} {x : LK} (h : l[k]? = some x) : l.drop k = x :: l.drop (k + 1) := by
  obtain ⟨hk, he⟩ := List.getElem?_eq_some_iff.1 h
  rw [List.drop_eq_getElem_cons hk, he]
set_option maxHeartbeats 1000000 in
theorem modeOf_any (a : Option Addr) (l : List LK) (cap : Nat) (txn : Int) (thing : ByteArray) (w : World) (hl : LksAt w a l) (hn : l.length ≤ 9223372036854775807) :
    Calls Tryd.prog 85 #[.slice a l.length cap, .int .i64 txn, .string thing] w fun e w' => e = .returned (.int .i64 (modeM txn thing l)) ∧ w = w' := by
  have HL := Lib.hid hl
  clear hl
  go_enter Tryd.func85, Tryd.ntmps85
  go_wp2
  go_loop [7] (fun i => ∃ k : Nat, k ≤ l.length ∧ i = .int .i64 k ∧ Hid (modeM txn thing l = modeM txn thing (l.drop k))) (fun i => l.length - (intOf i).toNat)
  case atStart => exact ⟨0, by omega, rfl, Lib.hid (by simp)⟩
  case round =>
    obtain ⟨k, hk, rfl, HJ⟩ := hrel
    by_cases hlt : k < l.length
    · obtain ⟨x, hx⟩ : ∃ x, l[k]? = some x := ⟨l[k], by simp [hlt]⟩
      obtain ⟨b, o, rfl, hb, c0, c1, c2⟩ := HL.out.at hx
      have HD := Lib.hid (drop_cons hx)
      obtain ⟨t, s, m⟩ := x
      simp only at c0 c1 c2
      clear hx
      cases e1 : (t == txn)
      · go_wp2
        go_round
        case rel => exact ⟨k + 1, by omega, by go_num, Lib.hid (by rw [HJ.out, HD.out, modeM, if_neg (by simp [isK, e1])])⟩
        case measure => simp [intOf]; omega
      cases e2 : (s.toList == thing.toList)
      · go_wp2
        go_round
        case rel => exact ⟨k + 1, by omega, by go_num, Lib.hid (by rw [HJ.out, HD.out, modeM, if_neg (by simp [isK, e2])])⟩
        case measure => simp [intOf]; omega
      · go_wp2
        go_ret
        go_light
        refine ⟨?_, rfl⟩
        rw [HJ.out, HD.out, modeM, if_pos (by simp only [isK, e1, e2]; rfl)]
        rfl
    · obtain rfl : k = l.length := by omega
      go_wp2
      go_ret
      go_light
      refine ⟨?_, rfl⟩
      rw [HJ.out, List.drop_length]
      rfl
theorem modeOf_at (a : Option Addr) (l : List LK) (n cap : Nat) (txn : Int) (thing : ByteArray) (w : World) (hln : l.length = n) (hl : LksAt w a l) (hn : n ≤ 9223372036854775807) :
    Calls Tryd.prog 85 #[.slice a n cap, .int .i64 txn, .string thing] w fun e w' => e = .returned (.int .i64 (modeM txn thing l)) ∧ w = w' := by
  subst hln; exact modeOf_any a l cap txn thing w hl hn
theorem find_at (a : Option Addr) (l : List LK) (n cap : Nat) (txn : Int) (thing : ByteArray) (w : World) (hln : l.length = n) (hl : LksAt w a l) (hn : n ≤ 9223372036854775807) :
    Calls Tryd.prog 79 #[.slice a n cap, .int .i64 txn, .string thing] w fun e w' => e = .returned (.int .i64 (findM txn thing l)) ∧ Below w.heap.size w w' := by
  subst hln; exact find_any a l cap txn thing w hl hn
end Go.Proofs.YteebiklebedneaaDoor
/- The reference's against: those whose locks do not go with one, in order. -/
namespace Go.Proofs.YteebiklebedneaaDoor
open Go.RowKit Go.Joins
theorem infoInt : (Tryd.prog.info? 3).map (fun i => (i.zero, i.size, i.bytes)) = some (some (.int .i64 0), 1, 8) := by kernel_rfl
def agR (x h : LK) : Bool := h.s.toList == x.s.toList && h.t != x.t && !fittingM h.m x.m
def intsV (l : List Int) : List Value := l.map (Value.int .i64)
def agM (x : LK) (l : List LK) : List Int := (l.filter (agR x)).map (·.t)
theorem agM_succ (x : LK) (l : List LK) (k : Nat) (h : LK) (hh : l[k]? = some h) : agM x (l.take (k + 1)) = agM x (l.take k) ++ (if agR x h = true then [h.t] else []) := by
  unfold agM
  rw [List.take_add_one, hh]
  simp only [Option.toList_some, List.filter_append, List.map_append]
  congr 1
  cases e : agR x h <;> simp [List.filter, e]
theorem agM_len (x : LK) (l : List LK) : (agM x l).length ≤ l.length := by unfold agM; rw [List.length_map]; exact List.length_filter_le _ _
set_option maxRecDepth 100000 in
set_option maxHeartbeats 2000000 in
theorem against_any (a : Option Addr) (l : List LK) (cap : Nat) (x : LK) (w : World) (hl : LksAt w a l) (hn : l.length ≤ 2097152) :
    Calls Tryd.prog 86 #[.slice a l.length cap, .agg #[.int .i64 x.t, .string x.s, .int .i64 x.m]] w fun e w' => (∃ v, e = .returned v ∧ w'.ownsRow w.heap.size 3 1 v (agM x l).length (intsV (agM x l))) ∧ Below w.heap.size w w' := by
  obtain ⟨i0, hi0, hz0, hz1, hz2⟩ := info_parts infoInt
  have HL := Lib.hid hl
  obtain ⟨xt, xs, xm⟩ := x
  clear hl
  go_enter Tryd.func86, Tryd.ntmps86
  go_wp2
  go_loopw [5, 6] (fun v i wr => ∃ k : Nat, k ≤ l.length ∧ i = .int .i64 k ∧ Hid (wr.heap[w.heap.size]? = some (.cells #[.int .i64 xt, .string xs, .int .i64 xm] 82 (0, 0)) ∧
      wr.ownsRow (w.heap.size + 1) 3 1 v (agM ⟨xt, xs, xm⟩ (l.take k)).length (intsV (agM ⟨xt, xs, xm⟩ (l.take k))) ∧ Below w.heap.size w wr ∧ w.heap.size + 1 ≤ wr.heap.size)) (fun _ i _ => l.length - (intOf i).toNat)
  case atStart =>
    exact ⟨0, by omega, rfl, Lib.hid ⟨new_at _ _ _ rfl, by simpa [agM, intsV] using World.ownsRow_nil _ _ _ _, Joins.below_alloc1 _ _, by simp⟩⟩
  case round =>
    obtain ⟨k, hk, rfl, HI⟩ := hrel
    by_cases hlt : k < l.length
    · obtain ⟨h, hx⟩ : ∃ h, l[k]? = some h := ⟨l[k], by simp [hlt]⟩
      obtain ⟨b0, own, bel, sz⟩ := HI.out
      obtain ⟨b, o, rfl, hb, c0, c1, c2⟩ := HL.out.at hx
      have AS := Lib.hid (agM_succ ⟨xt, xs, xm⟩ l k h hx)
      have AL := Lib.hid (agM_len ⟨xt, xs, xm⟩ (l.take k))
      have TL := List.length_take_le k l
      obtain ⟨ht, hs, hm⟩ := h
      simp only at c0 c1 c2
      have c0 := (bel.cell (p := ⟨b, o + k * 3, none⟩) hb).trans c0
      have c1 := (bel.cell (p := ⟨b, o + k * 3 + 1, none⟩) hb).trans c1
      have c2 := (bel.cell (p := ⟨b, o + k * 3 + 2, none⟩) hb).trans c2
      have k0 := cell_of_block b0 0
      have k1 := cell_of_block b0 1
      have k2 := cell_of_block b0 2
      simp at k0 k1 k2
      have i1 : (0 : Int) ≤ (k : Int) := by omega
      have i2 : (k : Int) < (l.length : Int) := by omega
      have OW := Lib.hid own
      have B0 := Lib.hid b0
      have BE := Lib.hid bel
      clear own b0 bel hx TL HI
      cases e1 : (hs.toList == xs.toList)
      · go_wp2
        go_quiet (first | (go_at_call 104; exact Calls.quiet_of_same ((fitting_any _ _ _).mono fun _ _ h => ⟨h.1, h.2.symm⟩)))
        go_wp2
        go_roundw
        case rel => exact ⟨k + 1, by omega, by go_num, Lib.hid ⟨B0.out, by rw [AS.out, if_neg (by simp [agR, e1]), List.append_nil]; exact OW.out, below_drewN BE.out, sz⟩⟩
        case measure => simp [intOf]; omega
      cases e2 : (ht != xt)
      · go_wp2
        go_quiet (first | (go_at_call 104; exact Calls.quiet_of_same ((fitting_any _ _ _).mono fun _ _ h => ⟨h.1, h.2.symm⟩)))
        go_wp2
        go_roundw
        case rel => exact ⟨k + 1, by omega, by go_num, Lib.hid ⟨B0.out, by rw [AS.out, if_neg (by simp [agR, e2]), List.append_nil]; exact OW.out, below_drewN BE.out, sz⟩⟩
        case measure => simp [intOf]; omega
      cases e3 : fittingM hm xm
      · go_wp2
        go_quiet (first | (go_at_call 104; exact Calls.quiet_of_same ((fitting_any _ _ _).mono fun _ _ h => ⟨h.1, h.2.symm⟩)))
        have hag : agR ⟨xt, xs, xm⟩ ⟨ht, hs, hm⟩ = true := by simp only [agR, e1, e2, e3]; rfl
        generalize hq : wr.drewN nq = wq
        have hh : wq.heap = wr.heap := by rw [← hq]; rfl
        have BQ : Hid (Below w.heap.size w wq) := by rw [← hq]; exact below_drewN BE.out
        have own' := own_kept (w' := wq) OW.out (fun g _ => by rw [hh])
        have c0' : wq.cell? ⟨b, o + k * 3, none⟩ = some (.int .i64 ht) := (World.cell?_of_block (by rw [hh])).trans c0
        have B0' : Hid (wq.heap[w.heap.size]? = some (.cells #[.int .i64 xt, .string xs, .int .i64 xm] 82 (0, 0))) := by rw [hh]; exact B0
        have sz' : w.heap.size + 1 ≤ wq.heap.size := by rw [hh]; exact sz
        have OQ := Lib.hid own'
        have al := AL.out
        have tl := List.length_take_le k l
        clear hq hh own' c0 c1 c2 k0 k1 k2 OW BE B0
        go_wp2_with (at_builtin; refine wpList_append_lies _ rfl (.tmp 42) (.tmp 48) 43 rfl (w.heap.size + 1) 3 i0 _ 1 8 Tryd.underlying43 hi0 hz0 hz1 hz2 rfl (by decide) _ _ _ rfl (OQ.out.alloc _) ⟨wq.heap.size, 0, none⟩ 1 1 [.int .i64 ht] rfl rfl (World.news_of_block (cs := #[.int .i64 ht]) (t := 3) (fr := (0, 0)) (heap_alloc_new wq _)) (by simp [Value.oneCell']) (by omega) (by unfold maxLen; omega) (by omega) (by simp; omega) (wq.heap.size + 1) (by simp) ?_; intro g gcap w1 hown1 hgrow hat hlt'; have HO := Lib.hid hown1; have HG := Lib.hid hgrow; clear hown1 hgrow hat)
        go_roundw
        case rel =>
          have hs := HG.out.size
          simp at hs
          refine ⟨k + 1, by omega, by go_num, Lib.hid ⟨?_, ?_, ?_, by omega⟩⟩
          · refine (HG.out.block _ (by simp; omega) (Ne.symm (own_ne OQ.out (by omega)))).trans ?_
            exact (Below.heap_alloc _ _ _ (by omega)).trans B0'
          · rw [AS.out, if_pos hag, List.length_append]
            have e : intsV (agM ⟨xt, xs, xm⟩ (l.take k) ++ [ht]) = intsV (agM ⟨xt, xs, xm⟩ (l.take k)) ++ [.int .i64 ht] := by simp [intsV]
            rw [e]
            exact HO.out
          · refine (BQ.alloc (by omega) _).grown HG.out (by simp; omega) ?_
            intro g' hg'
            have := (own_lt OQ.out hg').1
            omega
        case measure => simp [intOf]; omega
      · go_wp2
        go_quiet (first | (go_at_call 104; exact Calls.quiet_of_same ((fitting_any _ _ _).mono fun _ _ h => ⟨h.1, h.2.symm⟩)))
        go_wp2
        go_roundw
        case rel => exact ⟨k + 1, by omega, by go_num, Lib.hid ⟨B0.out, by rw [AS.out, if_neg (by simp [agR, e3]), List.append_nil]; exact OW.out, below_drewN BE.out, sz⟩⟩
        case measure => simp [intOf]; omega
    · obtain rfl : k = l.length := by omega
      obtain ⟨b0, own, bel, sz⟩ := HI.out
      rw [List.take_length] at own
      go_wp2
      go_ret
      exact ⟨⟨_, rfl, ownsRow_le own (by omega)⟩, bel⟩
end Go.Proofs.YteebiklebedneaaDoor
/- The reference's aheadOf and waitsFor. -/
namespace Go.Proofs.YteebiklebedneaaDoor
open Go.RowKit Go.Joins
def sameT (q h : LK) : Bool := h.s.toList == q.s.toList
def ahM (q : LK) (l : List LK) : List Int := (l.filter (sameT q)).map (·.t)
theorem ahM_succ (q : LK) (l : List LK) (k : Nat) (h : LK) (hh : l[k]? = some h) : ahM q (l.take (k + 1)) = ahM q (l.take k) ++ (if sameT q h = true then [h.t] else []) := by
  unfold ahM
  rw [List.take_add_one, hh]
  simp only [Option.toList_some, List.filter_append, List.map_append]
  congr 1
  cases e : sameT q h <;> simp [List.filter, e]
theorem ahM_len (q : LK) (l : List LK) : (ahM q l).length ≤ l.length := by unfold ahM; rw [List.length_map]; exact List.length_filter_le _ _
set_option maxRecDepth 100000 in
set_option maxHeartbeats 2000000 in
theorem aheadOf_any (a1 a : Option Addr) (n1 p1 : Nat) (l : List LK) (cap : Nat) (i : Nat) (q : LK) (w : World) (hl : LksAt w a l) (hn : l.length ≤ 2097152) (hi : l[i]? = some q) :
    Calls Tryd.prog 88 #[.agg #[.slice a1 n1 p1, .slice a l.length cap], .int .i64 i] w fun e w' => (∃ v, e = .returned v ∧ w'.ownsRow w.heap.size 3 1 v (ahM q (l.take i)).length (intsV (ahM q (l.take i)))) ∧ Below w.heap.size w w' := by
  obtain ⟨i0, hi0, hz0, hz1, hz2⟩ := info_parts infoInt
  have hil : i < l.length := (List.getElem?_eq_some_iff.1 hi).1
  obtain ⟨b, o, rfl, hb, -, r1, -⟩ := hl.at hi
  have HL := Lib.hid hl
  have QI := Lib.hid hi
  obtain ⟨qt, qs, qm⟩ := q
  simp only at r1
  clear hl hi
  go_enter Tryd.func88, Tryd.ntmps88
  go_wp2
  go_loopw [5, 6] (fun v j wr => ∃ k : Nat, k ≤ i ∧ j = .int .i64 k ∧ Hid (wr.heap[w.heap.size]? = some (.cells #[.slice a1 n1 p1, .slice (some ⟨b, o, none⟩) l.length cap] 41 (0, 0)) ∧
      wr.ownsRow (w.heap.size + 1) 3 1 v (ahM ⟨qt, qs, qm⟩ (l.take k)).length (intsV (ahM ⟨qt, qs, qm⟩ (l.take k))) ∧ Below w.heap.size w wr ∧ w.heap.size + 1 ≤ wr.heap.size)) (fun _ j _ => i - (intOf j).toNat)
  case atStart =>
    exact ⟨0, by omega, rfl, Lib.hid ⟨new_at _ _ _ rfl, by simpa [ahM, intsV] using World.ownsRow_nil _ _ _ _, Joins.below_alloc1 _ _, by simp⟩⟩
  case round =>
    obtain ⟨k, hk, rfl, HI⟩ := hrel
    by_cases hlt : k < i
    · obtain ⟨h, hx⟩ : ∃ h, l[k]? = some h := ⟨l[k], by simp [show k < l.length by omega]⟩
      obtain ⟨b0, own, bel, sz⟩ := HI.out
      obtain ⟨b', o', hbo, hb', c0, c1, c2⟩ := HL.out.at hx
      simp only [Option.some.injEq, Addr.mk.injEq, and_true] at hbo
      obtain ⟨rfl, rfl⟩ := hbo
      have AS := Lib.hid (ahM_succ ⟨qt, qs, qm⟩ l k h hx)
      have AL := Lib.hid (ahM_len ⟨qt, qs, qm⟩ (l.take k))
      obtain ⟨ht, hs, hm⟩ := h
      simp only at c0 c1 c2
      have c0 := (bel.cell (p := ⟨b, o + k * 3, none⟩) hb).trans c0
      have c1 := (bel.cell (p := ⟨b, o + k * 3 + 1, none⟩) hb).trans c1
      have r1' := (bel.cell (p := ⟨b, o + i * 3 + 1, none⟩) hb).trans r1
      have k1 := cell_of_block b0 1
      simp at k1
      have i1 : (0 : Int) ≤ (k : Int) := by omega
      have i2 : (k : Int) < (l.length : Int) := by omega
      have i3 : (0 : Int) ≤ (i : Int) := by omega
      have i4 : (i : Int) < (l.length : Int) := by omega
      have OW := Lib.hid own
      have B0 := Lib.hid b0
      have BE := Lib.hid bel
      clear own b0 bel hx HI c2 hb'
      cases e1 : (hs.toList == qs.toList)
      · go_wp2
        go_quiet (fail)
        go_wp2
        go_roundw
        case rel => exact ⟨k + 1, by omega, by go_num, Lib.hid ⟨B0.out, by rw [AS.out, if_neg (by simp [sameT, e1]), List.append_nil]; exact OW.out, below_drewN BE.out, sz⟩⟩
        case measure => simp [intOf]; omega
      · go_wp2
        go_quiet (fail)
        have hag : sameT ⟨qt, qs, qm⟩ ⟨ht, hs, hm⟩ = true := by simp only [sameT, e1]
        generalize hq : wr.drewN nq = wq
        have hh : wq.heap = wr.heap := by rw [← hq]; rfl
        have BQ : Hid (Below w.heap.size w wq) := by rw [← hq]; exact below_drewN BE.out
        have own' := own_kept (w' := wq) OW.out (fun g _ => by rw [hh])
        have c0' : wq.cell? ⟨b, o + k * 3, none⟩ = some (.int .i64 ht) := (World.cell?_of_block (by rw [hh])).trans c0
        have B0' : Hid (wq.heap[w.heap.size]? = some (.cells #[.slice a1 n1 p1, .slice (some ⟨b, o, none⟩) l.length cap] 41 (0, 0))) := by rw [hh]; exact B0
        have k1' := cell_of_block B0'.out 1
        simp at k1'
        have sz' : w.heap.size + 1 ≤ wq.heap.size := by rw [hh]; exact sz
        have OQ := Lib.hid own'
        have al := AL.out
        have tl := List.length_take_le k l
        clear hq hh own' c0 c1 k1 OW BE B0 r1'
        go_wp2_with (at_builtin; refine wpList_append_lies _ rfl (.tmp 25) (.tmp 32) 43 rfl (w.heap.size + 1) 3 i0 _ 1 8 Tryd.underlying43 hi0 hz0 hz1 hz2 rfl (by decide) _ _ _ rfl (OQ.out.alloc _) ⟨wq.heap.size, 0, none⟩ 1 1 [.int .i64 ht] rfl rfl (World.news_of_block (cs := #[.int .i64 ht]) (t := 3) (fr := (0, 0)) (heap_alloc_new wq _)) (by simp [Value.oneCell']) (by omega) (by unfold maxLen; omega) (by omega) (by simp; omega) (wq.heap.size + 1) (by simp) ?_; intro g gcap w1 hown1 hgrow hat hlt'; have HO := Lib.hid hown1; have HG := Lib.hid hgrow; clear hown1 hgrow hat)
        go_roundw
        case rel =>
          have hs := HG.out.size
          simp at hs
          refine ⟨k + 1, by omega, by go_num, Lib.hid ⟨?_, ?_, ?_, by omega⟩⟩
          · refine (HG.out.block _ (by simp; omega) (Ne.symm (own_ne OQ.out (by omega)))).trans ?_
            exact (Below.heap_alloc _ _ _ (by omega)).trans B0'
          · rw [AS.out, if_pos hag, List.length_append]
            have e : intsV (ahM ⟨qt, qs, qm⟩ (l.take k) ++ [ht]) = intsV (ahM ⟨qt, qs, qm⟩ (l.take k)) ++ [.int .i64 ht] := by simp [intsV]
            rw [e]
            exact HO.out
          · refine (BQ.alloc (by omega) _).grown HG.out (by simp; omega) ?_
            intro g' hg'
            have := (own_lt OQ.out hg').1
            omega
        case measure => simp [intOf]; omega
    · obtain rfl : k = i := by omega
      obtain ⟨b0, own, bel, sz⟩ := HI.out
      go_wp2
      go_ret
      exact ⟨⟨_, rfl, ownsRow_le own (by omega)⟩, bel⟩
end Go.Proofs.YteebiklebedneaaDoor
/- The reference's waitsFor. -/
namespace Go.Proofs.YteebiklebedneaaDoor
open Go.RowKit
def wfM (l1 l2 : List LK) (i : Nat) (q : LK) : List Int := agM q l1 ++ (if modeM q.t q.s l1 = 0 then ahM q (l2.take i) else [])
theorem own_news {w : World} {base n g cap : Nat} {l : List Int} (h : w.ownsRow base 3 1 (.slice (some ⟨g, 0, none⟩) n cap) n (intsV l)) : ∀ j u, (intsV l)[j]? = some u → w.cell? ((⟨g, 0, none⟩ : Addr).add j) = some u := by
  intro j u hj
  have h2 := h.cellAt j (by have := h.1; have h3 := (List.getElem?_eq_some_iff.1 hj).1; omega)
  have e : (⟨g, 0, none⟩ : Addr).add j = ⟨g, j, none⟩ := by unfold Addr.add; split <;> simp_all
  rw [e, h2, hj]
theorem intsV_one (l : List Int) : ∀ u ∈ intsV l, u.oneCell' = true := by
  intro u hu
  obtain ⟨n, _, rfl⟩ := List.mem_map.1 hu
  rfl
set_option maxRecDepth 100000 in
set_option maxHeartbeats 2000000 in
theorem waitsFor_any (a1 a2 : Option Addr) (l1 l2 : List LK) (p1 p2 : Nat) (i : Nat) (q : LK) (w : World) (h1 : LksAt w a1 l1) (h2 : LksAt w a2 l2) (n1 : l1.length ≤ 2097152) (n2 : l2.length ≤ 2097152) (hi : l2[i]? = some q) :
    Calls Tryd.prog 54 #[.agg #[.slice a1 l1.length p1, .slice a2 l2.length p2], .int .i64 i] w fun e w' => (∃ v, e = .returned v ∧ w'.ownsRow w.heap.size 3 1 v (wfM l1 l2 i q).length (intsV (wfM l1 l2 i q))) ∧ Below w.heap.size w w' := by
  obtain ⟨i0, hi0, hz0, hz1, hz2⟩ := info_parts infoInt
  have hil : i < l2.length := (List.getElem?_eq_some_iff.1 hi).1
  obtain ⟨b, o, rfl, hb, r0, r1, r2⟩ := h2.at hi
  have H1 := Lib.hid h1
  have H2 := Lib.hid h2
  have QI := Lib.hid hi
  obtain ⟨qt, qs, qm⟩ := q
  simp only at r0 r1 r2
  have i3 : (0 : Int) ≤ (i : Int) := by omega
  have i4 : (i : Int) < (l2.length : Int) := by omega
  have r0 := fun x => ((Joins.below_alloc1 w x).cell (p := ⟨b, o + i * 3, none⟩) hb).trans r0
  have r1 := fun x => ((Joins.below_alloc1 w x).cell (p := ⟨b, o + i * 3 + 1, none⟩) hb).trans r1
  have r2 := fun x => ((Joins.below_alloc1 w x).cell (p := ⟨b, o + i * 3 + 2, none⟩) hb).trans r2
  have B2 : Hid (∀ x y, Below w.heap.size w ((w.alloc x).alloc y)) := fun x y => Joins.below_alloc2 w x y
  clear h1 h2 hi
  by_cases hm : modeM qt qs l1 = 0
  · have hm' : (modeM qt qs l1 == 0) = true := by simp [hm]
    go_enter Tryd.func54, Tryd.ntmps54
    go_wp2_with (first
      | (at_builtin; rcases Joins.ownsRow_forms O2.out with ⟨rfl, hv⟩ | ⟨g2, cap2, rfl⟩ <;> (first
          | (refine wpList_append_own_none rfl (.tmp 24) (.tmp 27) 43 rfl _ 3 i0 1 Tryd.underlying43 hi0 _ _ _ rfl O3.out rfl ?_)
          | (refine wpList_append_own _ rfl (.tmp 24) (.tmp 27) 43 rfl _ 3 i0 (.int .i64 0) 1 8 Tryd.underlying43 hi0 hz0 hz1 hz2 rfl (by decide) _ _ _ rfl O3.out ⟨g2, 0, none⟩ _ cap2 _ rfl (by simp [intsV]) (own_news O2.out) (intsV_one _) ?m1 ?m2 ?base ?_)))
      | (go_at_call 86; refine (against_any _ l1 _ ⟨qt, qs, qm⟩ _ (H1.out.below (B2.out _ _) (Nat.le_refl _)) n1).mono ?_; rintro e w1 ⟨⟨v1, rfl, own1⟩, hb⟩; have hz := hb.size; (try simp only [World.size_alloc, World.size_setCell, World.size_drew, size_drewN] at hz); (try (have zw1_0 : w.heap.size < w1.heap.size := (by omega))); (try (have cw1_0 := fun o => hb.cell (p := ⟨w.heap.size, o, none⟩) (by (try simp only [World.size_alloc, World.size_setCell, World.size_drew, size_drewN]); omega))); (try (have fw1_0 := fun o => hb.frozen (p := ⟨w.heap.size, o, none⟩) (by (try simp only [World.size_alloc, World.size_setCell, World.size_drew, size_drewN]); omega))); (try (have zw1_1 : w.heap.size + 1 < w1.heap.size := (by omega))); (try (have cw1_1 := fun o => hb.cell (p := ⟨w.heap.size + 1, o, none⟩) (by (try simp only [World.size_alloc, World.size_setCell, World.size_drew, size_drewN]); omega))); (try (have fw1_1 := fun o => hb.frozen (p := ⟨w.heap.size + 1, o, none⟩) (by (try simp only [World.size_alloc, World.size_setCell, World.size_drew, size_drewN]); omega))); have O1 := Lib.hid own1; have L1 := Lib.hid (H1.out.below ((B2.out _ _).trans (hb.mono (by simp; omega))) (Nat.le_refl _)); have L2 := Lib.hid (H2.out.below ((B2.out _ _).trans (hb.mono (by simp; omega))) (Nat.le_refl _)); clear own1)
      | (go_at_call 85; refine (modeOf_any _ l1 _ qt qs _ L1.out (by omega)).mono ?_; rintro e w1 ⟨rfl, rfl⟩)
      | (go_at_call 88; refine (aheadOf_any _ _ _ _ l2 _ i ⟨qt, qs, qm⟩ _ L2.out n2 QI.out).mono ?_; rintro e w2 ⟨⟨v2, rfl, own2⟩, hb⟩; have hz := hb.size; (try simp only [World.size_alloc, World.size_setCell, World.size_drew, size_drewN] at hz); (try (have zw2_0 : w.heap.size < w2.heap.size := (by omega))); (try (have cw2_0 := fun o => hb.cell (p := ⟨w.heap.size, o, none⟩) (by (try simp only [World.size_alloc, World.size_setCell, World.size_drew, size_drewN]); omega))); (try (have fw2_0 := fun o => hb.frozen (p := ⟨w.heap.size, o, none⟩) (by (try simp only [World.size_alloc, World.size_setCell, World.size_drew, size_drewN]); omega))); (try (have zw2_1 : w.heap.size + 1 < w2.heap.size := (by omega))); (try (have cw2_1 := fun o => hb.cell (p := ⟨w.heap.size + 1, o, none⟩) (by (try simp only [World.size_alloc, World.size_setCell, World.size_drew, size_drewN]); omega))); (try (have fw2_1 := fun o => hb.frozen (p := ⟨w.heap.size + 1, o, none⟩) (by (try simp only [World.size_alloc, World.size_setCell, World.size_drew, size_drewN]); omega))); have O2 := Lib.hid own2; have O3 := Lib.hid (own_kept (w' := w2) O1.out (fun g hg => hb.block g (own_lt O1.out hg).2)); clear own2))
    case m1 =>
      have a1 := agM_len ⟨qt, qs, qm⟩ l1
      have a2 := ahM_len ⟨qt, qs, qm⟩ (l2.take i)
      have a3 := List.length_take_le i l2
      unfold maxLen
      omega
    case m2 =>
      have a1 := agM_len ⟨qt, qs, qm⟩ l1
      have a2 := ahM_len ⟨qt, qs, qm⟩ (l2.take i)
      have a3 := List.length_take_le i l2
      omega
    case base => simp; omega
    case inr =>
      intro v3 w3 own3 grow3 _
      have O4 := Lib.hid own3
      have G3 := Lib.hid grow3
      have hz3 := grow3.size
      clear own3 grow3
      go_wp2
      go_ret
      refine ⟨⟨_, rfl, ?_⟩, ?_⟩
      · rw [wfM, if_pos hm, List.length_append]
        have e : intsV (agM ⟨qt, qs, qm⟩ l1 ++ ahM ⟨qt, qs, qm⟩ (l2.take i)) = intsV (agM ⟨qt, qs, qm⟩ l1) ++ intsV (ahM ⟨qt, qs, qm⟩ (l2.take i)) := by simp [intsV]
        rw [e]
        exact Joins.ownsRow_le O4.out (by omega)
      · refine Below.grown (w := w2) (by (repeat' (first | (with_reducible exact Below.refl _ _) | (with_reducible assumption) | (with_reducible refine Below.alloc ?_ ?_ _) | (with_reducible refine Below.drew ?_) | (with_reducible refine below_drewN ?_) | (with_reducible refine Below.setCell ?_ ?_ _) | (with_reducible refine below_step ?_ ?_ (by with_reducible assumption)) | go_size))) G3.out (by omega) ?_
        intro g' hg'
        have := (own_lt O3.out hg').1
        simp at this
        omega
    · go_ret
      have e0 : intsV (ahM ⟨qt, qs, qm⟩ (l2.take i)) = [] := List.length_eq_zero_iff.1 (by simpa [intsV] using hv)
      have e1 : ahM ⟨qt, qs, qm⟩ (l2.take i) = [] := by simpa [intsV] using e0
      refine ⟨⟨_, rfl, ?_⟩, ?_⟩
      · rw [wfM, if_pos hm, e1, List.append_nil]
        exact Joins.ownsRow_le O3.out (by simp; omega)
      · (repeat' (first | (with_reducible exact Below.refl _ _) | (with_reducible assumption) | (with_reducible refine Below.alloc ?_ ?_ _) | (with_reducible refine Below.drew ?_) | (with_reducible refine below_drewN ?_) | (with_reducible refine Below.setCell ?_ ?_ _) | (with_reducible refine below_step ?_ ?_ (by with_reducible assumption)) | go_size))
  · have hm' : (modeM qt qs l1 == 0) = false := by simp [hm]
    go_enter Tryd.func54, Tryd.ntmps54
    go_wp2_with (first
      | (go_at_call 86; refine (against_any _ l1 _ ⟨qt, qs, qm⟩ _ (H1.out.below (B2.out _ _) (Nat.le_refl _)) n1).mono ?_; rintro e w1 ⟨⟨v1, rfl, own1⟩, hb⟩; have hz := hb.size; (try simp only [World.size_alloc, World.size_setCell, World.size_drew, size_drewN] at hz); (try (have zw1_0 : w.heap.size < w1.heap.size := (by omega))); (try (have cw1_0 := fun o => hb.cell (p := ⟨w.heap.size, o, none⟩) (by (try simp only [World.size_alloc, World.size_setCell, World.size_drew, size_drewN]); omega))); (try (have fw1_0 := fun o => hb.frozen (p := ⟨w.heap.size, o, none⟩) (by (try simp only [World.size_alloc, World.size_setCell, World.size_drew, size_drewN]); omega))); (try (have zw1_1 : w.heap.size + 1 < w1.heap.size := (by omega))); (try (have cw1_1 := fun o => hb.cell (p := ⟨w.heap.size + 1, o, none⟩) (by (try simp only [World.size_alloc, World.size_setCell, World.size_drew, size_drewN]); omega))); (try (have fw1_1 := fun o => hb.frozen (p := ⟨w.heap.size + 1, o, none⟩) (by (try simp only [World.size_alloc, World.size_setCell, World.size_drew, size_drewN]); omega))); have O1 := Lib.hid own1; have L1 := Lib.hid (H1.out.below ((B2.out _ _).trans (hb.mono (by simp; omega))) (Nat.le_refl _)); clear own1)
      | (go_at_call 85; refine (modeOf_any _ l1 _ qt qs _ L1.out (by omega)).mono ?_; rintro e w1 ⟨rfl, rfl⟩))
    go_ret
    refine ⟨⟨_, rfl, ?_⟩, ?_⟩
    · rw [wfM, if_neg hm, List.append_nil]
      exact Joins.ownsRow_le O1.out (by simp; omega)
    · (repeat' (first | (with_reducible exact Below.refl _ _) | (with_reducible assumption) | (with_reducible refine Below.alloc ?_ ?_ _) | (with_reducible refine Below.drew ?_) | (with_reducible refine below_drewN ?_) | (with_reducible refine Below.setCell ?_ ?_ _) | (with_reducible refine below_step ?_ ?_ (by with_reducible assumption)) | go_size))
theorem waitsFor_at (a1 a2 : Option Addr) (l1 l2 : List LK) (m1 m2 p1 p2 : Nat) (i : Nat) (q : LK) (w : World) (e1 : l1.length = m1) (e2 : l2.length = m2) (h1 : LksAt w a1 l1) (h2 : LksAt w a2 l2) (n1 : m1 ≤ 2097152) (n2 : m2 ≤ 2097152) (hi : l2[i]? = some q) :
    Calls Tryd.prog 54 #[.agg #[.slice a1 m1 p1, .slice a2 m2 p2], .int .i64 i] w fun e w' => (∃ v, e = .returned v ∧ w'.ownsRow w.heap.size 3 1 v (wfM l1 l2 i q).length (intsV (wfM l1 l2 i q))) ∧ Below w.heap.size w w' := by
  subst e1; subst e2; exact waitsFor_any a1 a2 l1 l2 p1 p2 i q w h1 h2 n1 n2 hi
end Go.Proofs.YteebiklebedneaaDoor
/- The plain law of a lock state: what the program asks of it and what the reference asks are one. -/
namespace Go.Proofs.YteebiklebedneaaDoor
theorem find_mode_at (t : Int) (s : ByteArray) : ∀ (l : List LK) (k0 : Nat),
    (idxF (isK t s) l k0 = -1 ∧ modeM t s l = 0 ∧ l.any (isK t s) = false) ∨ ∃ (j : Nat) (x : LK), idxF (isK t s) l k0 = ((k0 + j : Nat) : Int) ∧ l[j]? = some x ∧ isK t s x = true ∧ modeM t s l = x.m
  | [], k0 => .inl ⟨rfl, rfl, rfl⟩
  | y :: r, k0 => by
    by_cases e : isK t s y = true
    · exact .inr ⟨0, y, by rw [idxF, if_pos e]; rfl, rfl, e, by rw [modeM, if_pos e]⟩
    · have := find_mode_at t s r (k0 + 1)
      rcases this with ⟨h1, h2, h3⟩ | ⟨j, x, h1, h2, h3, h4⟩
      · refine .inl ⟨?_, ?_, ?_⟩
        · rw [idxF, if_neg e]; exact_mod_cast h1
        · rw [modeM, if_neg e, h2]
        · simp [h3]; simpa using e
      · refine .inr ⟨j + 1, x, ?_, by simpa using h2, h3, by rw [modeM, if_neg e, h4]⟩
        rw [idxF, if_neg e]
        have : ((k0 : Int) + 1) = ((k0 + 1 : Nat) : Int) := by omega
        rw [this, h1]
        omega
theorem find_mode (t : Int) (s : ByteArray) (l : List LK) :
    (findM t s l = -1 ∧ modeM t s l = 0 ∧ l.any (isK t s) = false) ∨ ∃ (j : Nat) (x : LK), findM t s l = (j : Int) ∧ l[j]? = some x ∧ isK t s x = true ∧ modeM t s l = x.m := by
  have := find_mode_at t s l 0
  simpa [findM] using this
theorem shape_mode {x : LK} (h : shapeM x = 0) : modeB x.m = true ∧ 1 ≤ x.t ∧ x.t ≤ 1048576 ∧ x.s.size ≤ 120 := by
  unfold shapeM at h
  split at h
  · omega
  · split at h
    · omega
    · split at h
      · rename_i h1 h2 h3
        exact ⟨h3, by omega, by omega, by omega⟩
      · omega
theorem modeB_iff {m : Int} : modeB m = true ↔ 1 ≤ m ∧ m ≤ 5 := by simp [modeB]
theorem agR_eq {x h : LK} (hx : modeB x.m = true) (hh : modeB h.m = true) : agR x h = agK x h := by
  rw [modeB_iff] at hx hh
  unfold agR agK
  rw [fitting_eq _ _ hh.1 hh.2 hx.1 hx.2]
theorem any_eq {p q : LK → Bool} : ∀ {l : List LK}, (∀ y ∈ l, p y = q y) → l.any p = l.any q
  | [], _ => rfl
  | y :: r, h => by
    rw [List.any_cons, List.any_cons, h y (by simp), any_eq fun z hz => h z (by simp [hz])]
theorem filterMap_nil {p : LK → Bool} {l : List LK} : (l.filter p).map (·.t) = [] ↔ l.any p = false := by
  rw [List.map_eq_nil_iff, List.filter_eq_nil_iff, List.any_eq_false]
theorem agM_nil {x : LK} {l : List LK} (hx : modeB x.m = true) (hl : ∀ y ∈ l, modeB y.m = true) : agM x l = [] ↔ l.any (agK x) = false := by
  unfold agM
  rw [filterMap_nil, any_eq fun y hy => agR_eq hx (hl y hy)]
theorem ahM_nil {q : LK} {l : List LK} : ahM q l = [] ↔ l.any (sameT q) = false := filterMap_nil
def sameX (q h : LK) : Bool := h.t == q.t
/-- Could it be had now? -/
def firstM (l1 l2 : List LK) (i : Nat) (q : LK) : Bool := !l1.any (agK q) && (decide (0 ≤ findM q.t q.s l1) || !(l2.take i).any (sameT q))
theorem modeM_mem {t : Int} {s : ByteArray} {l : List LK} (hl : ∀ y ∈ l, modeB y.m = true) : (findM t s l = -1 ∧ modeM t s l = 0) ∨ (0 ≤ findM t s l ∧ 1 ≤ modeM t s l ∧ modeM t s l ≤ 5) := by
  rcases find_mode t s l with ⟨h1, h2, _⟩ | ⟨j, x, h1, h2, h3, h4⟩
  · exact .inl ⟨h1, h2⟩
  · have := modeB_iff.1 (hl x (List.mem_of_getElem? h2))
    exact .inr ⟨by omega, by omega, by omega⟩
theorem wfM_nil {l1 l2 : List LK} {i : Nat} {q : LK} (hq : modeB q.m = true) (hl : ∀ y ∈ l1, modeB y.m = true) : wfM l1 l2 i q = [] ↔ firstM l1 l2 i q = true := by
  unfold wfM firstM
  rw [List.append_eq_nil_iff, agM_nil hq hl]
  rcases modeM_mem (t := q.t) (s := q.s) hl with ⟨h1, h2⟩ | ⟨h1, h2, h3⟩
  · rw [if_pos h2, ahM_nil, h1]
    simp
  · rw [if_neg (by omega)]
    simp [h1]
def queueGood (l1 l2 : List LK) (k : Nat) (q : LK) : Prop :=
  shapeM q = 0 ∧ (l2.take k).any (sameX q) = false ∧ (findM q.t q.s l1 < 0 ∨ (joinB (modeM q.t q.s l1) q.m = q.m ∧ modeM q.t q.s l1 ≠ q.m)) ∧ firstM l1 l2 k q = false
def heldGood (l1 : List LK) (k : Nat) (x : LK) : Prop := findM x.t x.s (l1.take k) < 0 ∧ l1.any (agK x) = false
/-- A state that may be, as the program asks. -/
def lockGood (l1 l2 : List LK) : Prop := l1.length + l2.length ≤ 200 ∧ (∀ x ∈ l1, shapeM x = 0) ∧ (∀ k x, l1[k]? = some x → heldGood l1 k x) ∧ (∀ k q, l2[k]? = some q → queueGood l1 l2 k q)
def heldRef (l1 : List LK) (k : Nat) (x : LK) : Prop := shapeM x = 0 ∧ modeM x.t x.s (l1.take k) ≤ 0 ∧ agM x l1 = []
def queueRef (l1 l2 : List LK) (k : Nat) (q : LK) : Prop :=
  shapeM q = 0 ∧ (l2.take k).any (sameX q) = false ∧ ¬(0 < modeM q.t q.s l1 ∧ (modeM q.t q.s l1 = q.m ∨ joinFrom (modeM q.t q.s l1) q.m 5 1 ≠ q.m)) ∧ wfM l1 l2 k q ≠ []
def refGood (l1 l2 : List LK) : Prop := l1.length + l2.length ≤ 200 ∧ (∀ k x, l1[k]? = some x → heldRef l1 k x) ∧ (∀ k q, l2[k]? = some q → queueRef l1 l2 k q)
theorem held_iff {l1 : List LK} (hs : ∀ x ∈ l1, shapeM x = 0) {k : Nat} {x : LK} (hx : l1[k]? = some x) : heldGood l1 k x ↔ heldRef l1 k x := by
  have hm : ∀ y ∈ l1, modeB y.m = true := fun y hy => (shape_mode (hs y hy)).1
  have hxm := List.mem_of_getElem? hx
  unfold heldGood heldRef
  rw [agM_nil (hm x hxm) hm]
  have := modeM_mem (t := x.t) (s := x.s) (l := l1.take k) fun y hy => hm y (List.mem_of_mem_take hy)
  constructor
  · rintro ⟨h1, h2⟩; exact ⟨hs x hxm, by omega, h2⟩
  · rintro ⟨_, h1, h2⟩; exact ⟨by omega, h2⟩
theorem queue_iff {l1 l2 : List LK} (hs : ∀ x ∈ l1, shapeM x = 0) {k : Nat} {q : LK} : queueGood l1 l2 k q ↔ queueRef l1 l2 k q := by
  have hm : ∀ y ∈ l1, modeB y.m = true := fun y hy => (shape_mode (hs y hy)).1
  unfold queueGood queueRef
  have key : shapeM q = 0 → ((findM q.t q.s l1 < 0 ∨ (joinB (modeM q.t q.s l1) q.m = q.m ∧ modeM q.t q.s l1 ≠ q.m)) ↔ ¬(0 < modeM q.t q.s l1 ∧ (modeM q.t q.s l1 = q.m ∨ joinFrom (modeM q.t q.s l1) q.m 5 1 ≠ q.m))) := by
    intro h0
    have hq := modeB_iff.1 (shape_mode h0).1
    rcases modeM_mem (t := q.t) (s := q.s) hm with ⟨h1, h2⟩ | ⟨h1, h2, h3⟩
    · rw [h1, h2]; simp
    · rw [joined_eq _ _ h2 h3 hq.1 hq.2]
      constructor
      · rintro (h | ⟨h4, h5⟩)
        · omega
        · rintro ⟨_, h | h⟩
          · exact h5 h
          · exact h h4
      · intro h
        refine .inr ⟨?_, ?_⟩
        · apply Classical.byContradiction; intro h6; exact h ⟨by omega, .inr h6⟩
        · intro h6; exact h ⟨by omega, .inl h6⟩
  constructor
  · rintro ⟨h1, h2, h3, h4⟩
    refine ⟨h1, h2, (key h1).1 h3, ?_⟩
    rw [Ne, wfM_nil (shape_mode h1).1 hm, h4]; simp
  · rintro ⟨h1, h2, h3, h4⟩
    refine ⟨h1, h2, (key h1).2 h3, ?_⟩
    rw [Ne, wfM_nil (shape_mode h1).1 hm] at h4; simpa using h4
theorem good_iff {l1 l2 : List LK} : lockGood l1 l2 ↔ refGood l1 l2 := by
  constructor
  · rintro ⟨h1, h2, h3, h4⟩
    exact ⟨h1, fun k x hx => (held_iff h2 hx).1 (h3 k x hx), fun k q hq => (queue_iff h2).1 (h4 k q hq)⟩
  · rintro ⟨h1, h3, h4⟩
    have h2 : ∀ x ∈ l1, shapeM x = 0 := fun x hx => by
      obtain ⟨k, hk⟩ := List.mem_iff_getElem?.1 hx
      exact (h3 k x hk).1
    exact ⟨h1, h2, fun k x hx => (held_iff h2 hx).2 (h3 k x hx), fun k q hq => (queue_iff h2).2 (h4 k q hq)⟩
open Classical in
/-- What both answer. -/
noncomputable def chkM (l1 l2 : List LK) : Int := if lockGood l1 l2 then 0 else 11
theorem chk_yes {l1 l2 : List LK} (h : lockGood l1 l2) : chkM l1 l2 = 0 := if_pos h
theorem chk_no {l1 l2 : List LK} (h : ¬lockGood l1 l2) : chkM l1 l2 = 11 := if_neg h
theorem chk_ref_held {l1 l2 : List LK} {k : Nat} {x : LK} (hx : l1[k]? = some x) (h : ¬heldRef l1 k x) : chkM l1 l2 = 11 := chk_no fun hg => h ((good_iff.1 hg).2.1 k x hx)
theorem chk_ref_queue {l1 l2 : List LK} {k : Nat} {q : LK} (hx : l2[k]? = some q) (h : ¬queueRef l1 l2 k q) : chkM l1 l2 = 11 := chk_no fun hg => h ((good_iff.1 hg).2.2 k q hx)
theorem chk_many {l1 l2 : List LK} (h : 200 < l1.length + l2.length) : chkM l1 l2 = 11 := chk_no fun hg => by have := hg.1; omega
theorem chk_ref_yes {l1 l2 : List LK} (h1 : l1.length + l2.length ≤ 200) (h2 : ∀ k x, k < l1.length → l1[k]? = some x → heldRef l1 k x) (h3 : ∀ k x, k < l2.length → l2[k]? = some x → queueRef l1 l2 k x) : chkM l1 l2 = 0 :=
  chk_yes (good_iff.2 ⟨h1, fun k x hx => h2 k x (List.getElem?_eq_some_iff.1 hx).1 hx, fun k x hx => h3 k x (List.getElem?_eq_some_iff.1 hx).1 hx⟩)
theorem chk_yes_of {l1 l2 : List LK} (h1 : l1.length + l2.length ≤ 200) (h0 : ∀ x ∈ l1, shapeM x = 0) (h2 : ∀ k x, k < l1.length → l1[k]? = some x → heldGood l1 k x) (h3 : ∀ k x, k < l2.length → l2[k]? = some x → queueGood l1 l2 k x) : chkM l1 l2 = 0 :=
  chk_yes ⟨h1, h0, fun k x hx => h2 k x (List.getElem?_eq_some_iff.1 hx).1 hx, fun k x hx => h3 k x (List.getElem?_eq_some_iff.1 hx).1 hx⟩
theorem chk_held {l1 l2 : List LK} {k : Nat} {x : LK} (hx : l1[k]? = some x) (h : ¬heldGood l1 k x) : chkM l1 l2 = 11 := chk_no fun hg => h (hg.2.2.1 k x hx)
theorem chk_queue {l1 l2 : List LK} {k : Nat} {q : LK} (hx : l2[k]? = some q) (h : ¬queueGood l1 l2 k q) : chkM l1 l2 = 11 := chk_no fun hg => h (hg.2.2.2 k q hx)
theorem chk_shape {l1 l2 : List LK} (h : l1.any (fun x => shapeM x != 0) = true) : chkM l1 l2 = 11 := chk_no fun hg => by
  obtain ⟨x, hx, he⟩ := List.any_eq_true.1 h
  have := hg.2.1 x hx
  simp [this] at he
theorem any_take_succ {p : LK → Bool} {l : List LK} {j : Nat} {y : LK} (h : l[j]? = some y) : (l.take (j + 1)).any p = ((l.take j).any p || p y) := by
  rw [List.take_add_one, h]; simp
theorem any_take_of {p : LK → Bool} {l : List LK} {j k : Nat} {y : LK} (h : l[j]? = some y) (hj : j < k) (hp : p y = true) : (l.take k).any p = true :=
  List.any_eq_true.2 ⟨y, List.mem_of_getElem? (i := j) (by rw [List.getElem?_take_of_lt hj, h]), hp⟩
end Go.Proofs.YteebiklebedneaaDoor
/- The program's first; the closures of Check. -/
namespace Go.Proofs.YteebiklebedneaaDoor
open Go.RowKit Go.Joins
theorem entersF1 : ∀ args w, (callFunc 83 args).run Tryd.prog w = .ok (.enter 83 args) w := enters_of Tryd.func83 (by kernel_rfl) rfl
theorem entersC1 : ∀ args w, (callFunc 77 args).run Tryd.prog w = .ok (.enter 77 args) w := enters_of Tryd.func77 (by kernel_rfl) rfl
theorem entersC2 : ∀ args w, (callFunc 81 args).run Tryd.prog w = .ok (.enter 81 args) w := enters_of Tryd.func81 (by kernel_rfl) rfl
theorem first1_pred (q : LK) (B : Nat) (l : List LK) (w : World) (hB : B < w.heap.size) (h1 : w.cell? ⟨B, 1, none⟩ = some (.string q.s)) :
    PredB 83 #[.pointer (some ⟨B, 0, none⟩)] (sameT q) l w := fun W hb x _ => by
  have c1 := (hb.cell (p := ⟨B, 1, none⟩) hB).trans h1
  have hz := hb.size
  have c1 := fun y => ((Joins.below_alloc1 W y).cell (p := ⟨B, 1, none⟩) (show B < W.heap.size from by omega)).trans c1
  obtain ⟨t, s, m⟩ := x
  obtain ⟨qt, qs, qm⟩ := q
  show Calls Tryd.prog 83 #[.agg #[.int .i64 t, .string s, .int .i64 m], .pointer (some ⟨B, 0, none⟩)] W _
  simp only at c1
  go_enter Tryd.func83, Tryd.ntmps83
  go_wp2
  all_goals (go_ret; exact ⟨by simp_all [sameT], hb.alloc hb.size _⟩)
theorem check2_pred (q : LK) (B : Nat) (l : List LK) (w : World) (hB : B < w.heap.size) (h1 : w.cell? ⟨B, 0, none⟩ = some (.int .i64 q.t)) :
    PredB 81 #[.pointer (some ⟨B, 0, none⟩)] (sameX q) l w := fun W hb x _ => by
  have c1 := (hb.cell (p := ⟨B, 0, none⟩) hB).trans h1
  have hz := hb.size
  have c1 := fun y => ((Joins.below_alloc1 W y).cell (p := ⟨B, 0, none⟩) (show B < W.heap.size from by omega)).trans c1
  obtain ⟨t, s, m⟩ := x
  obtain ⟨qt, qs, qm⟩ := q
  show Calls Tryd.prog 81 #[.agg #[.int .i64 t, .string s, .int .i64 m], .pointer (some ⟨B, 0, none⟩)] W _
  simp only at c1
  go_enter Tryd.func81, Tryd.ntmps81
  go_wp2
  all_goals (go_ret; exact ⟨by simp_all [sameX], hb.alloc hb.size _⟩)
theorem check1_pred (l : List LK) (w : World) (hm : ∀ x ∈ l, x.s.size ≤ maxLen) : PredB 77 #[] (fun x => shapeM x != 0) l w := fun W hb x hx => by
  have hs := hm x hx
  obtain ⟨t, s, m⟩ := x
  show Calls Tryd.prog 77 #[.agg #[.int .i64 t, .string s, .int .i64 m]] W _
  have hz := hb.size
  clear hx hm
  simp only at hs
  go_enter Tryd.func77, Tryd.ntmps77
  go_wp2_with (go_at_call 78; refine (shape_any ⟨t, s, m⟩ _ hs).mono ?_; rintro e w' ⟨rfl, hb'⟩)
  go_ret
  exact ⟨rfl, by (repeat' (first | (with_reducible exact Below.refl _ _) | (with_reducible assumption) | (with_reducible refine Below.alloc ?_ ?_ _) | (with_reducible refine Below.drew ?_) | (with_reducible refine below_drewN ?_) | (with_reducible refine Below.setCell ?_ ?_ _) | (with_reducible refine below_step ?_ ?_ (by with_reducible assumption)) | go_size))⟩
theorem containsFunc_at (a : Option Addr) (l : List LK) (n cap : Nat) (g : FuncId) (lb : Array Value) (p : LK → Bool) (w : World) (eg : ∀ args w, (callFunc g args).run Tryd.prog w = .ok (.enter g args) w)
    (hln : l.length = n) (hl : LksAt w a l) (hp : PredB g lb p l w) (hn : n ≤ 9223372036854775807) :
    Calls Tryd.prog 76 #[.slice a n cap, .func (.func g) #[] lb] w fun e w' => e = .returned (.bool (l.any p)) ∧ Below w.heap.size w w' := by
  subst hln; exact containsFunc_any a l cap g lb p w eg hl hp hn
set_option maxRecDepth 100000 in
set_option maxHeartbeats 2000000 in
theorem first_any (a1 a2 : Option Addr) (l1 l2 : List LK) (p1 p2 : Nat) (i : Nat) (q : LK) (w : World) (h1 : LksAt w a1 l1) (h2 : LksAt w a2 l2) (n1 : l1.length ≤ 2097152) (n2 : l2.length ≤ 2097152) (q2 : l2.length ≤ p2)
    (hT : TabFits w) (hi : l2[i]? = some q) (hq : modeB q.m = true) (hm : ∀ y ∈ l1, modeB y.m = true) :
    Calls Tryd.prog 49 #[.agg #[.slice a1 l1.length p1, .slice a2 l2.length p2], .int .i64 i] w fun e w' => e = .returned (.bool (firstM l1 l2 i q)) ∧ Below w.heap.size w w' := by
  have hil : i < l2.length := (List.getElem?_eq_some_iff.1 hi).1
  obtain ⟨b, o, rfl, hb, r0, r1, r2⟩ := h2.at hi
  have H1 := Lib.hid h1
  have H2 := Lib.hid h2
  have QI := Lib.hid hi
  have HQ := Lib.hid hq
  have HM := Lib.hid hm
  have HT := Lib.hid hT
  obtain ⟨qt, qs, qm⟩ := q
  simp only at r0 r1 r2
  have i3 : (0 : Int) ≤ (i : Int) := by omega
  have i4 : (i : Int) < (l2.length : Int) := by omega
  have i5 : (i : Int) ≤ (p2 : Int) := by omega
  have r0 := fun x => ((Joins.below_alloc1 w x).cell (p := ⟨b, o + i * 3, none⟩) hb).trans r0
  have r1 := fun x => ((Joins.below_alloc1 w x).cell (p := ⟨b, o + i * 3 + 1, none⟩) hb).trans r1
  have r2 := fun x => ((Joins.below_alloc1 w x).cell (p := ⟨b, o + i * 3 + 2, none⟩) hb).trans r2
  have KL : Hid ((l2.take i).length = i) := Lib.hid (by rw [List.length_take]; omega)
  have B2 : Hid (∀ x y, Below w.heap.size w ((w.alloc x).alloc y)) := fun x y => Joins.below_alloc2 w x y
  clear h1 h2 hi hq hm hT
  have EF : Hid (firstM l1 l2 i ⟨qt, qs, qm⟩ = (!l1.any (agK ⟨qt, qs, qm⟩) && (decide (0 ≤ findM qt qs l1) || !(l2.take i).any (sameT ⟨qt, qs, qm⟩)))) := Lib.hid rfl
  have HF := fun w1 (hb : Below w.heap.size w w1) => free_any a1 l1 p1 ⟨qt, qs, qm⟩ w1 (H1.out.below hb (Nat.le_refl _)) (by omega) (HT.out.below hb HT.out.lt) HQ.out HM.out
  have HF := Lib.hid HF
  cases e1 : l1.any (agK ⟨qt, qs, qm⟩)
  · rw [e1] at HF
    by_cases e2 : 0 ≤ findM qt qs l1
    · have e2' : decide ((0 : Int) ≤ findM qt qs l1) = true := by simpa using e2
      have HR : Hid (firstM l1 l2 i ⟨qt, qs, qm⟩ = true) := Lib.hid (by rw [EF.out, e1, e2']; rfl)
      clear e1
      go_enter Tryd.func49, Tryd.ntmps49
      go_wp2_with (first | (go_at_call 80; refine (HF.out _ (B2.out _ _)).mono ?_; rintro e w1 ⟨rfl, hb⟩; have hz := hb.size; (try simp only [World.size_alloc, World.size_setCell, World.size_drew, size_drewN] at hz); (try (have zw1_0 : w.heap.size < w1.heap.size := (by omega))); (try (have cw1_0 := fun o => hb.cell (p := ⟨w.heap.size, o, none⟩) (by (try simp only [World.size_alloc, World.size_setCell, World.size_drew, size_drewN]); omega))); (try (have fw1_0 := fun o => hb.frozen (p := ⟨w.heap.size, o, none⟩) (by (try simp only [World.size_alloc, World.size_setCell, World.size_drew, size_drewN]); omega))); (try (have zw1_1 : w.heap.size + 1 < w1.heap.size := (by omega))); (try (have cw1_1 := fun o => hb.cell (p := ⟨w.heap.size + 1, o, none⟩) (by (try simp only [World.size_alloc, World.size_setCell, World.size_drew, size_drewN]); omega))); (try (have fw1_1 := fun o => hb.frozen (p := ⟨w.heap.size + 1, o, none⟩) (by (try simp only [World.size_alloc, World.size_setCell, World.size_drew, size_drewN]); omega)))) | (go_at_call 79; refine (find_any a1 l1 p1 qt qs _ (H1.out.below (by have := B2.out; (repeat' (first | (with_reducible exact Below.refl _ _) | (with_reducible assumption) | (with_reducible refine Below.alloc ?_ ?_ _) | (with_reducible refine Below.drew ?_) | (with_reducible refine below_drewN ?_) | (with_reducible refine Below.setCell ?_ ?_ _) | (with_reducible refine below_step ?_ ?_ (by with_reducible assumption)) | go_size))) (Nat.le_refl _)) (by omega)).mono ?_; rintro e w2 ⟨rfl, hb⟩; have hz := hb.size; (try simp only [World.size_alloc, World.size_setCell, World.size_drew, size_drewN] at hz); (try (have zw2_0 : w.heap.size < w2.heap.size := (by omega))); (try (have cw2_0 := fun o => hb.cell (p := ⟨w.heap.size, o, none⟩) (by (try simp only [World.size_alloc, World.size_setCell, World.size_drew, size_drewN]); omega))); (try (have fw2_0 := fun o => hb.frozen (p := ⟨w.heap.size, o, none⟩) (by (try simp only [World.size_alloc, World.size_setCell, World.size_drew, size_drewN]); omega))); (try (have zw2_1 : w.heap.size + 1 < w2.heap.size := (by omega))); (try (have cw2_1 := fun o => hb.cell (p := ⟨w.heap.size + 1, o, none⟩) (by (try simp only [World.size_alloc, World.size_setCell, World.size_drew, size_drewN]); omega))); (try (have fw2_1 := fun o => hb.frozen (p := ⟨w.heap.size + 1, o, none⟩) (by (try simp only [World.size_alloc, World.size_setCell, World.size_drew, size_drewN]); omega)))))
      go_ret
      go_light
      exact ⟨by rw [HR.out]; rfl, by have := B2.out; (repeat' (first | (with_reducible exact Below.refl _ _) | (with_reducible assumption) | (with_reducible refine Below.alloc ?_ ?_ _) | (with_reducible refine Below.drew ?_) | (with_reducible refine below_drewN ?_) | (with_reducible refine Below.setCell ?_ ?_ _) | (with_reducible refine below_step ?_ ?_ (by with_reducible assumption)) | go_size))⟩
    · have e2' : decide ((0 : Int) ≤ findM qt qs l1) = false := by simpa using e2
      have HR : Hid (firstM l1 l2 i ⟨qt, qs, qm⟩ = !(l2.take i).any (sameT ⟨qt, qs, qm⟩)) := Lib.hid (by rw [EF.out, e1, e2']; rfl)
      clear e1
      go_enter Tryd.func49, Tryd.ntmps49
      go_wp2_with (first | (go_at_call 80; refine (HF.out _ (B2.out _ _)).mono ?_; rintro e w1 ⟨rfl, hb⟩; have hz := hb.size; (try simp only [World.size_alloc, World.size_setCell, World.size_drew, size_drewN] at hz); (try (have zw1_0 : w.heap.size < w1.heap.size := (by omega))); (try (have cw1_0 := fun o => hb.cell (p := ⟨w.heap.size, o, none⟩) (by (try simp only [World.size_alloc, World.size_setCell, World.size_drew, size_drewN]); omega))); (try (have fw1_0 := fun o => hb.frozen (p := ⟨w.heap.size, o, none⟩) (by (try simp only [World.size_alloc, World.size_setCell, World.size_drew, size_drewN]); omega))); (try (have zw1_1 : w.heap.size + 1 < w1.heap.size := (by omega))); (try (have cw1_1 := fun o => hb.cell (p := ⟨w.heap.size + 1, o, none⟩) (by (try simp only [World.size_alloc, World.size_setCell, World.size_drew, size_drewN]); omega))); (try (have fw1_1 := fun o => hb.frozen (p := ⟨w.heap.size + 1, o, none⟩) (by (try simp only [World.size_alloc, World.size_setCell, World.size_drew, size_drewN]); omega)))) | (go_at_call 79; refine (find_any a1 l1 p1 qt qs _ (H1.out.below (by have := B2.out; (repeat' (first | (with_reducible exact Below.refl _ _) | (with_reducible assumption) | (with_reducible refine Below.alloc ?_ ?_ _) | (with_reducible refine Below.drew ?_) | (with_reducible refine below_drewN ?_) | (with_reducible refine Below.setCell ?_ ?_ _) | (with_reducible refine below_step ?_ ?_ (by with_reducible assumption)) | go_size))) (Nat.le_refl _)) (by omega)).mono ?_; rintro e w2 ⟨rfl, hb⟩; have hz := hb.size; (try simp only [World.size_alloc, World.size_setCell, World.size_drew, size_drewN] at hz); (try (have zw2_0 : w.heap.size < w2.heap.size := (by omega))); (try (have cw2_0 := fun o => hb.cell (p := ⟨w.heap.size, o, none⟩) (by (try simp only [World.size_alloc, World.size_setCell, World.size_drew, size_drewN]); omega))); (try (have fw2_0 := fun o => hb.frozen (p := ⟨w.heap.size, o, none⟩) (by (try simp only [World.size_alloc, World.size_setCell, World.size_drew, size_drewN]); omega))); (try (have zw2_1 : w.heap.size + 1 < w2.heap.size := (by omega))); (try (have cw2_1 := fun o => hb.cell (p := ⟨w.heap.size + 1, o, none⟩) (by (try simp only [World.size_alloc, World.size_setCell, World.size_drew, size_drewN]); omega))); (try (have fw2_1 := fun o => hb.frozen (p := ⟨w.heap.size + 1, o, none⟩) (by (try simp only [World.size_alloc, World.size_setCell, World.size_drew, size_drewN]); omega)))) | (go_at_call 76; refine (containsFunc_at _ (l2.take i) i p2 83 _ (sameT ⟨qt, qs, qm⟩) _ entersF1 KL.out ((H2.out.below (by have := B2.out; (repeat' (first | (with_reducible exact Below.refl _ _) | (with_reducible assumption) | (with_reducible refine Below.alloc ?_ ?_ _) | (with_reducible refine Below.drew ?_) | (with_reducible refine below_drewN ?_) | (with_reducible refine Below.setCell ?_ ?_ _) | (with_reducible refine below_step ?_ ?_ (by with_reducible assumption)) | go_size))) (Nat.le_refl _)).take i) (first1_pred ⟨qt, qs, qm⟩ (w.heap.size + 1) _ _ (by omega) (by go_simp)) (by omega)).mono ?_; rintro e w3 ⟨rfl, hb⟩; have hz := hb.size; (try simp only [World.size_alloc, World.size_setCell, World.size_drew, size_drewN] at hz); (try (have zw3_0 : w.heap.size < w3.heap.size := (by omega))); (try (have cw3_0 := fun o => hb.cell (p := ⟨w.heap.size, o, none⟩) (by (try simp only [World.size_alloc, World.size_setCell, World.size_drew, size_drewN]); omega))); (try (have fw3_0 := fun o => hb.frozen (p := ⟨w.heap.size, o, none⟩) (by (try simp only [World.size_alloc, World.size_setCell, World.size_drew, size_drewN]); omega))); (try (have zw3_1 : w.heap.size + 1 < w3.heap.size := (by omega))); (try (have cw3_1 := fun o => hb.cell (p := ⟨w.heap.size + 1, o, none⟩) (by (try simp only [World.size_alloc, World.size_setCell, World.size_drew, size_drewN]); omega))); (try (have fw3_1 := fun o => hb.frozen (p := ⟨w.heap.size + 1, o, none⟩) (by (try simp only [World.size_alloc, World.size_setCell, World.size_drew, size_drewN]); omega)))))
      go_ret
      go_light
      exact ⟨by rw [HR.out]; rfl, by have := B2.out; (repeat' (first | (with_reducible exact Below.refl _ _) | (with_reducible assumption) | (with_reducible refine Below.alloc ?_ ?_ _) | (with_reducible refine Below.drew ?_) | (with_reducible refine below_drewN ?_) | (with_reducible refine Below.setCell ?_ ?_ _) | (with_reducible refine below_step ?_ ?_ (by with_reducible assumption)) | go_size))⟩
  · rw [e1] at HF
    have HR : Hid (firstM l1 l2 i ⟨qt, qs, qm⟩ = false) := Lib.hid (by rw [EF.out, e1]; rfl)
    clear e1
    go_enter Tryd.func49, Tryd.ntmps49
    go_wp2_with (go_at_call 80; refine (HF.out _ (B2.out _ _)).mono ?_; rintro e w1 ⟨rfl, hb⟩; have hz := hb.size; (try simp only [World.size_alloc, World.size_setCell, World.size_drew, size_drewN] at hz); (try (have zw1_0 : w.heap.size < w1.heap.size := (by omega))); (try (have cw1_0 := fun o => hb.cell (p := ⟨w.heap.size, o, none⟩) (by (try simp only [World.size_alloc, World.size_setCell, World.size_drew, size_drewN]); omega))); (try (have fw1_0 := fun o => hb.frozen (p := ⟨w.heap.size, o, none⟩) (by (try simp only [World.size_alloc, World.size_setCell, World.size_drew, size_drewN]); omega))); (try (have zw1_1 : w.heap.size + 1 < w1.heap.size := (by omega))); (try (have cw1_1 := fun o => hb.cell (p := ⟨w.heap.size + 1, o, none⟩) (by (try simp only [World.size_alloc, World.size_setCell, World.size_drew, size_drewN]); omega))); (try (have fw1_1 := fun o => hb.frozen (p := ⟨w.heap.size + 1, o, none⟩) (by (try simp only [World.size_alloc, World.size_setCell, World.size_drew, size_drewN]); omega))))
    go_ret
    go_light
    exact ⟨by rw [HR.out]; rfl, by have := B2.out; (repeat' (first | (with_reducible exact Below.refl _ _) | (with_reducible assumption) | (with_reducible refine Below.alloc ?_ ?_ _) | (with_reducible refine Below.drew ?_) | (with_reducible refine below_drewN ?_) | (with_reducible refine Below.setCell ?_ ?_ _) | (with_reducible refine below_step ?_ ?_ (by with_reducible assumption)) | go_size))⟩
theorem first_at (a1 a2 : Option Addr) (l1 l2 : List LK) (m1 m2 p1 p2 : Nat) (i : Nat) (q : LK) (w : World) (e1 : l1.length = m1) (e2 : l2.length = m2) (h1 : LksAt w a1 l1) (h2 : LksAt w a2 l2) (n1 : m1 ≤ 2097152) (n2 : m2 ≤ 2097152) (q2 : m2 ≤ p2)
    (hT : TabFits w) (hi : l2[i]? = some q) (hq : modeB q.m = true) (hm : ∀ y ∈ l1, modeB y.m = true) :
    Calls Tryd.prog 49 #[.agg #[.slice a1 m1 p1, .slice a2 m2 p2], .int .i64 i] w fun e w' => e = .returned (.bool (firstM l1 l2 i q)) ∧ Below w.heap.size w w' := by
  subst e1; subst e2; exact first_any a1 a2 l1 l2 p1 p2 i q w h1 h2 n1 n2 q2 hT hi hq hm
end Go.Proofs.YteebiklebedneaaDoor
/- The program's Check of lock states. -/
namespace Go.Proofs.YteebiklebedneaaDoor
open Go.RowKit Go.Joins
set_option maxRecDepth 100000 in
set_option maxHeartbeats 4000000 in
theorem check_any (a1 a2 : Option Addr) (l1 l2 : List LK) (p1 p2 : Nat) (w : World) (h1 : LksAt w a1 l1) (h2 : LksAt w a2 l2) (n1 : l1.length ≤ 1048576) (n2 : l2.length ≤ 1048576) (q1 : l1.length ≤ p1) (q2 : l2.length ≤ p2) (m1 : ∀ x ∈ l1, x.s.size ≤ maxLen) (m2 : ∀ x ∈ l2, x.s.size ≤ maxLen) (hT : TabFits w) (hJ : TabJoins w) :
    Calls Tryd.prog 45 #[.agg #[.slice a1 l1.length p1, .slice a2 l2.length p2]] w fun e w' => e = .returned (.int .i64 (chkM l1 l2)) ∧ Below w.heap.size w w' := by
  have H1 := Lib.hid h1
  have H2 := Lib.hid h2
  have M1 := Lib.hid m1
  have M2 := Lib.hid m2
  have HT := Lib.hid hT
  have HJ := Lib.hid hJ
  clear h1 h2 m1 m2 hT hJ
  by_cases hs : 200 < l1.length + l2.length
  · go_enter Tryd.func45, Tryd.ntmps45
    go_wp2
    go_ret
    go_light
    exact ⟨by rw [chk_many hs]; rfl, by (repeat' (first | (with_reducible exact Below.refl _ _) | (with_reducible assumption) | (with_reducible refine Below.alloc ?_ ?_ _) | (with_reducible refine Below.drew ?_) | (with_reducible refine below_drewN ?_) | (with_reducible refine Below.setCell ?_ ?_ _) | (with_reducible refine below_step ?_ ?_ (by with_reducible assumption)) | go_size))⟩
  have hs' : l1.length + l2.length ≤ 200 := by omega
  clear hs
  have B1 : Hid (∀ x, Below w.heap.size w (w.alloc x)) := fun x => Joins.below_alloc1 w x
  have HC := Lib.hid (fun x => containsFunc_any a1 l1 p1 77 #[] (fun x => shapeM x != 0) (w.alloc x) entersC1 (H1.out.below (B1.out x) (Nat.le_refl _)) (check1_pred l1 _ M1.out) (by omega))
  cases e0 : l1.any (fun x => shapeM x != 0)
  · rw [e0] at HC
    have HS : Hid (∀ x ∈ l1, shapeM x = 0) := Lib.hid (fun x hx => by have := List.any_eq_false.1 e0 x hx; simpa using this)
    have HM : Hid (∀ x ∈ l1, modeB x.m = true) := Lib.hid (fun x hx => (shape_mode (HS.out x hx)).1)
    clear e0
    go_enter Tryd.func45, Tryd.ntmps45
    go_wp2_with (go_at_call 76; refine (HC.out _).mono ?_; rintro e w1 ⟨rfl, hb1⟩; have hz := hb1.size; (try simp only [World.size_alloc, World.size_setCell, World.size_drew, size_drewN] at hz); (try (have zw1_0 : w.heap.size < w1.heap.size := (by omega))); (try (have cw1_0 := fun o => hb1.cell (p := ⟨w.heap.size, o, none⟩) (by (try simp only [World.size_alloc, World.size_setCell, World.size_drew, size_drewN]); omega))); (try (have fw1_0 := fun o => hb1.frozen (p := ⟨w.heap.size, o, none⟩) (by (try simp only [World.size_alloc, World.size_setCell, World.size_drew, size_drewN]); omega))))
    have k00 : w1.cell? ⟨w.heap.size, 0, none⟩ = some (.slice a1 l1.length p1) := cell_later hb1 (by simp)
    have k01 : w1.cell? ⟨w.heap.size, 1, none⟩ = some (.slice a2 l2.length p2) := cell_later hb1 (by simp)
    have hz1 := hb1.size
    simp at hz1
    have B0 : Hid (w1.heap[w.heap.size]? = some (.cells #[.slice a1 l1.length p1, .slice a2 l2.length p2] 41 (0, 0))) := Lib.hid ((hb1.block _ (by simp)).trans (new_at _ _ _ rfl))
    have BE : Hid (Below w.heap.size w w1) := Lib.hid ((B1.out _).trans (hb1.mono (by simp)))
    clear hb1
    go_loopw [22] (fun i wr => ∃ k : Nat, k ≤ l1.length ∧ i = .int .i64 k ∧ Hid (wr.heap[w.heap.size]? = some (.cells #[.slice a1 l1.length p1, .slice a2 l2.length p2] 41 (0, 0)) ∧ Below w.heap.size w wr ∧ w.heap.size + 1 ≤ wr.heap.size ∧ ∀ j x, j < k → l1[j]? = some x → heldGood l1 j x)) (fun i _ => l1.length - (intOf i).toNat)
    case atStart => exact ⟨0, by omega, rfl, Lib.hid ⟨B0.out, BE.out, by omega, fun j _ hj => absurd hj (Nat.not_lt_zero _)⟩⟩
    case round =>
      clear k00 k01 B0 BE hz cw1_0 fw1_0 zw1_0 hz1
      obtain ⟨k, hk, rfl, HI⟩ := hrel
      by_cases hlt : k < l1.length
      · obtain ⟨b0, bel, sz, -⟩ := HI.out
        obtain ⟨h, hx⟩ : ∃ h, l1[k]? = some h := ⟨l1[k], by simp [hlt]⟩
        have hmx := HM.out h (List.mem_of_getElem? hx)
        obtain ⟨b, o, rfl, hb, c0, c1', c2'⟩ := H1.out.at hx
        obtain ⟨ht, hs', hm⟩ := h
        simp only at c0 c1' c2' hmx
        have HMX := Lib.hid hmx
        have k0 := Joins.cell_of_block b0 0
        simp at k0
        have c0 := (bel.cell (p := ⟨b, o + k * 3, none⟩) hb).trans c0
        have c1 := (bel.cell (p := ⟨b, o + k * 3 + 1, none⟩) hb).trans c1'
        have c2 := (bel.cell (p := ⟨b, o + k * 3 + 2, none⟩) hb).trans c2'
        have i1 : (0 : Int) ≤ (k : Int) := by omega
        have i2 : (k : Int) < (l1.length : Int) := by omega
        have B0 := Lib.hid b0
        have bW := bel.alloc (by omega) (.cells #[.int .i64 ht, .string hs', .int .i64 hm] 82)
        have BE := Lib.hid bel
        clear b0 bel hmx
        go_wp2
        have t0 : (wr.alloc (.cells #[.int .i64 ht, .string hs', .int .i64 hm] 82)).cell? ⟨wr.heap.size, 0, none⟩ = some (.int .i64 ht) := by simp
        have t1 : (wr.alloc (.cells #[.int .i64 ht, .string hs', .int .i64 hm] 82)).cell? ⟨wr.heap.size, 1, none⟩ = some (.string hs') := by simp
        have t2 : (wr.alloc (.cells #[.int .i64 ht, .string hs', .int .i64 hm] 82)).cell? ⟨wr.heap.size, 2, none⟩ = some (.int .i64 hm) := by simp
        have k0 := (cell_later (Joins.below_alloc1 wr (.cells #[.int .i64 ht, .string hs', .int .i64 hm] 82)) k0)
        have zW : wr.heap.size < (wr.alloc (.cells #[.int .i64 ht, .string hs', .int .i64 hm] 82)).heap.size := by simp
        have WB := Lib.hid (Below.heap_alloc wr (.cells #[.int .i64 ht, .string hs', .int .i64 hm] 82) w.heap.size (by omega))
        generalize hW : wr.alloc (.cells #[.int .i64 ht, .string hs', .int .i64 hm] 82) = W at bW t0 t1 t2 k0 zW WB ⊢
        have HX := Lib.hid hx
        have bW' := Lib.hid bW
        have kp : (k : Int) ≤ (p1 : Int) := by omega
        have KL : Hid ((l1.take k).length = k) := Lib.hid (by rw [List.length_take]; omega)
        have HL1 := Lib.hid ((H1.out.below bW.drew (Nat.le_refl _)).take k)
        clear hx bW hW
        refine wp_cut (fun w' : World => w'.cell? ⟨wr.heap.size, 0, none⟩ = some (.int .i64 ht) ∧ w'.cell? ⟨wr.heap.size, 1, none⟩ = some (.string hs') ∧ w'.cell? ⟨wr.heap.size, 2, none⟩ = some (.int .i64 hm) ∧ w'.cell? ⟨w.heap.size, 0, none⟩ = some (.slice (some ⟨b, o, none⟩) l1.length p1)) 16 (by kernel_rfl) (by kernel_rfl) (fun inv => ?_)
        ((refine anyT_take (i := 0) (v := ?_) rfl (by kernel_rfl) (by kernel_rfl) (by kernel_rfl) (fun _ _ _ h => h) (Or.inl ⟨by rfl, ?_⟩) ⟨t0, t1, t2, k0⟩ inv (fun inv => ?_); rotate_left; (· (intro w hSw; (try dsimp only at hSw); go_simp; with_reducible rfl)); (try simp only [Act.put, List.getElem_toArray, List.getElem_cons_zero, List.getElem_cons_succ, List.setIfInBounds_toArray, List.set_cons_zero, List.set_cons_succ])); (refine anyT_take (i := 1) (v := ?_) rfl (by kernel_rfl) (by kernel_rfl) (by kernel_rfl) (fun _ _ _ h => h) (Or.inl ⟨by rfl, ?_⟩) ⟨t0, t1, t2, k0⟩ inv (fun inv => ?_); rotate_left; (· (intro w hSw; (try dsimp only at hSw); go_simp; with_reducible rfl)); (try simp only [Act.put, List.getElem_toArray, List.getElem_cons_zero, List.getElem_cons_succ, List.setIfInBounds_toArray, List.set_cons_zero, List.set_cons_succ])); (refine anyT_take (i := 2) (v := ?_) rfl (by kernel_rfl) (by kernel_rfl) (by kernel_rfl) (fun _ _ _ h => h) (Or.inl ⟨by rfl, ?_⟩) ⟨t0, t1, t2, k0⟩ inv (fun inv => ?_); rotate_left; (· (intro w hSw; (try dsimp only at hSw); go_simp; with_reducible rfl)); (try simp only [Act.put, List.getElem_toArray, List.getElem_cons_zero, List.getElem_cons_succ, List.setIfInBounds_toArray, List.set_cons_zero, List.set_cons_succ])); (refine anyT_take (i := 3) (v := ?_) rfl (by kernel_rfl) (by kernel_rfl) (by kernel_rfl) (fun _ _ _ h => h) (Or.inl ⟨by rfl, ?_⟩) ⟨t0, t1, t2, k0⟩ inv (fun inv => ?_); rotate_left; (· (intro w hSw; (try dsimp only at hSw); go_simp; with_reducible rfl)); (try simp only [Act.put, List.getElem_toArray, List.getElem_cons_zero, List.getElem_cons_succ, List.setIfInBounds_toArray, List.set_cons_zero, List.set_cons_succ])); (refine anyT_take (i := 4) (v := ?_) rfl (by kernel_rfl) (by kernel_rfl) (by kernel_rfl) (fun _ _ _ h => h) (Or.inl ⟨by rfl, ?_⟩) ⟨t0, t1, t2, k0⟩ inv (fun inv => ?_); rotate_left; (· (intro w hSw; (try dsimp only at hSw); go_simp; with_reducible rfl)); (try simp only [Act.put, List.getElem_toArray, List.getElem_cons_zero, List.getElem_cons_succ, List.setIfInBounds_toArray, List.set_cons_zero, List.set_cons_succ])); (refine anyT_take (i := 5) (v := ?_) rfl (by kernel_rfl) (by kernel_rfl) (by kernel_rfl) (fun _ _ _ h => h) (Or.inl ⟨by rfl, ?_⟩) ⟨t0, t1, t2, k0⟩ inv (fun inv => ?_); rotate_left; (· (intro w hSw; (try dsimp only at hSw); go_simp; with_reducible rfl)); (try simp only [Act.put, List.getElem_toArray, List.getElem_cons_zero, List.getElem_cons_succ, List.setIfInBounds_toArray, List.set_cons_zero, List.set_cons_succ])); (refine anyT_take (i := 6) (v := ?_) rfl (by kernel_rfl) (by kernel_rfl) (by kernel_rfl) (fun _ _ _ h => h) (Or.inl ⟨by rfl, ?_⟩) ⟨t0, t1, t2, k0⟩ inv (fun inv => ?_); rotate_left; (· (intro w hSw; (try dsimp only at hSw); go_simp; with_reducible rfl)); (try simp only [Act.put, List.getElem_toArray, List.getElem_cons_zero, List.getElem_cons_succ, List.setIfInBounds_toArray, List.set_cons_zero, List.set_cons_succ])); (refine anyT_take (i := 7) (v := ?_) rfl (by kernel_rfl) (by kernel_rfl) (by kernel_rfl) (fun _ _ _ h => h) (Or.inl ⟨by rfl, ?_⟩) ⟨t0, t1, t2, k0⟩ inv (fun inv => ?_); rotate_left; (· (intro w hSw; (try dsimp only at hSw); go_simp; with_reducible rfl)); (try simp only [Act.put, List.getElem_toArray, List.getElem_cons_zero, List.getElem_cons_succ, List.setIfInBounds_toArray, List.set_cons_zero, List.set_cons_succ])))
        (refine anyT_step (i := 8) rfl (by kernel_rfl) (by decide) inv (fun K hK => ?_); go_simp; go_at_call 79; refine (find_at _ (l1.take k) k p1 ht hs' _ KL.out HL1.out (by omega)).mono ?_; rintro e w2 ⟨rfl, hbw2⟩; have hz := hbw2.size; (try simp only [World.size_alloc, World.size_setCell, World.size_drew, size_drewN] at hz); (refine hK _ _ ⟨cell_later hbw2 t0, cell_later hbw2 t1, cell_later hbw2 t2, cell_later hbw2 k0⟩ (fun inv => ?_); clear hK K; (try simp only [Act.put, List.getElem_toArray, List.getElem_cons_zero, List.getElem_cons_succ, List.setIfInBounds_toArray, List.set_cons_zero, List.set_cons_succ])))
        have t0 := cell_later hbw2 t0
        have t1 := cell_later hbw2 t1
        have t2 := cell_later hbw2 t2
        have k0 := cell_later hbw2 k0
        by_cases e2 : 0 ≤ findM ht hs' (l1.take k)
        · have e2d : decide ((0 : Int) ≤ findM ht hs' (l1.take k)) = true := by simpa using e2
          have E2 := Lib.hid e2
          clear e2
          ((refine anyT_take (i := 9) (v := ?_) rfl (by kernel_rfl) (by kernel_rfl) (by kernel_rfl) (fun _ _ _ h => h) (Or.inl ⟨by rfl, ?_⟩) ⟨t0, t1, t2, k0⟩ inv (fun inv => ?_); rotate_left; (· (intro w hSw; (try dsimp only at hSw); go_simp; with_reducible rfl)); (try simp only [Act.put, List.getElem_toArray, List.getElem_cons_zero, List.getElem_cons_succ, List.setIfInBounds_toArray, List.set_cons_zero, List.set_cons_succ])); (refine anyT_take (i := 10) (v := ?_) rfl (by kernel_rfl) (by kernel_rfl) (by kernel_rfl) (fun _ _ _ h => h) (Or.inl ⟨by rfl, ?_⟩) ⟨t0, t1, t2, k0⟩ inv (fun inv => ?_); rotate_left; (· (intro w hSw; (try dsimp only at hSw); go_simp; with_reducible rfl)); (try simp only [Act.put, List.getElem_toArray, List.getElem_cons_zero, List.getElem_cons_succ, List.setIfInBounds_toArray, List.set_cons_zero, List.set_cons_succ])))
          ((refine anyT_take (i := 11) (v := _) rfl (by kernel_rfl) (by kernel_rfl) (by kernel_rfl) (fun _ _ _ h => h) (Or.inr ⟨by rfl, rfl⟩) ⟨t0, t1, t2, k0⟩ inv (fun inv => ?_); (try simp only [Act.put, List.getElem_toArray, List.getElem_cons_zero, List.getElem_cons_succ, List.setIfInBounds_toArray, List.set_cons_zero, List.set_cons_succ])); (refine anyT_take (i := 12) (v := _) rfl (by kernel_rfl) (by kernel_rfl) (by kernel_rfl) (fun _ _ _ h => h) (Or.inr ⟨by rfl, rfl⟩) ⟨t0, t1, t2, k0⟩ inv (fun inv => ?_); (try simp only [Act.put, List.getElem_toArray, List.getElem_cons_zero, List.getElem_cons_succ, List.setIfInBounds_toArray, List.set_cons_zero, List.set_cons_succ])); (refine anyT_take (i := 13) (v := _) rfl (by kernel_rfl) (by kernel_rfl) (by kernel_rfl) (fun _ _ _ h => h) (Or.inr ⟨by rfl, rfl⟩) ⟨t0, t1, t2, k0⟩ inv (fun inv => ?_); (try simp only [Act.put, List.getElem_toArray, List.getElem_cons_zero, List.getElem_cons_succ, List.setIfInBounds_toArray, List.set_cons_zero, List.set_cons_succ])); (refine anyT_take (i := 14) (v := _) rfl (by kernel_rfl) (by kernel_rfl) (by kernel_rfl) (fun _ _ _ h => h) (Or.inr ⟨by rfl, rfl⟩) ⟨t0, t1, t2, k0⟩ inv (fun inv => ?_); (try simp only [Act.put, List.getElem_toArray, List.getElem_cons_zero, List.getElem_cons_succ, List.setIfInBounds_toArray, List.set_cons_zero, List.set_cons_succ])); (refine anyT_take (i := 15) (v := _) rfl (by kernel_rfl) (by kernel_rfl) (by kernel_rfl) (fun _ _ _ h => h) (Or.inr ⟨by rfl, rfl⟩) ⟨t0, t1, t2, k0⟩ inv (fun inv => ?_); (try simp only [Act.put, List.getElem_toArray, List.getElem_cons_zero, List.getElem_cons_succ, List.setIfInBounds_toArray, List.set_cons_zero, List.set_cons_succ])))
          (refine anyT_end (by kernel_rfl) ?_; simp only [List.drop_succ_cons, List.drop_zero])
          go_wp2
          go_ret
          go_light
          exact ⟨by rw [chk_held HX.out (fun h => by have h1 : findM ht hs' (l1.take k) < 0 := h.1; have := E2.out; omega)]; rfl, by have bW := bW'.out; (repeat' (first | (with_reducible exact Below.refl _ _) | (with_reducible assumption) | (with_reducible refine Below.alloc ?_ ?_ _) | (with_reducible refine Below.drew ?_) | (with_reducible refine below_drewN ?_) | (with_reducible refine Below.setCell ?_ ?_ _) | (with_reducible refine below_step ?_ ?_ (by with_reducible assumption)) | go_size))⟩
        · have e2d : decide ((0 : Int) ≤ findM ht hs' (l1.take k)) = false := by simpa using e2
          have E2 := Lib.hid e2
          clear e2
          ((refine anyT_take (i := 9) (v := ?_) rfl (by kernel_rfl) (by kernel_rfl) (by kernel_rfl) (fun _ _ _ h => h) (Or.inl ⟨by rfl, ?_⟩) ⟨t0, t1, t2, k0⟩ inv (fun inv => ?_); rotate_left; (· (intro w hSw; (try dsimp only at hSw); go_simp; with_reducible rfl)); (try simp only [Act.put, List.getElem_toArray, List.getElem_cons_zero, List.getElem_cons_succ, List.setIfInBounds_toArray, List.set_cons_zero, List.set_cons_succ])); (refine anyT_take (i := 10) (v := ?_) rfl (by kernel_rfl) (by kernel_rfl) (by kernel_rfl) (fun _ _ _ h => h) (Or.inl ⟨by rfl, ?_⟩) ⟨t0, t1, t2, k0⟩ inv (fun inv => ?_); rotate_left; (· (intro w hSw; (try dsimp only at hSw); go_simp; with_reducible rfl)); (try simp only [Act.put, List.getElem_toArray, List.getElem_cons_zero, List.getElem_cons_succ, List.setIfInBounds_toArray, List.set_cons_zero, List.set_cons_succ])); (refine anyT_take (i := 11) (v := ?_) rfl (by kernel_rfl) (by kernel_rfl) (by kernel_rfl) (fun _ _ _ h => h) (Or.inl ⟨by rfl, ?_⟩) ⟨t0, t1, t2, k0⟩ inv (fun inv => ?_); rotate_left; (· (intro w hSw; (try dsimp only at hSw); go_simp; with_reducible rfl)); (try simp only [Act.put, List.getElem_toArray, List.getElem_cons_zero, List.getElem_cons_succ, List.setIfInBounds_toArray, List.set_cons_zero, List.set_cons_succ])); (refine anyT_take (i := 12) (v := ?_) rfl (by kernel_rfl) (by kernel_rfl) (by kernel_rfl) (fun _ _ _ h => h) (Or.inl ⟨by rfl, ?_⟩) ⟨t0, t1, t2, k0⟩ inv (fun inv => ?_); rotate_left; (· (intro w hSw; (try dsimp only at hSw); go_simp; with_reducible rfl)); (try simp only [Act.put, List.getElem_toArray, List.getElem_cons_zero, List.getElem_cons_succ, List.setIfInBounds_toArray, List.set_cons_zero, List.set_cons_succ])); (refine anyT_take (i := 13) (v := ?_) rfl (by kernel_rfl) (by kernel_rfl) (by kernel_rfl) (fun _ _ _ h => h) (Or.inl ⟨by rfl, ?_⟩) ⟨t0, t1, t2, k0⟩ inv (fun inv => ?_); rotate_left; (· (intro w hSw; (try dsimp only at hSw); go_simp; with_reducible rfl)); (try simp only [Act.put, List.getElem_toArray, List.getElem_cons_zero, List.getElem_cons_succ, List.setIfInBounds_toArray, List.set_cons_zero, List.set_cons_succ])))
          have bW2 : Below w.heap.size w w2 := by have bW := bW'.out; (repeat' (first | (with_reducible exact Below.refl _ _) | (with_reducible assumption) | (with_reducible refine Below.alloc ?_ ?_ _) | (with_reducible refine Below.drew ?_) | (with_reducible refine below_drewN ?_) | (with_reducible refine Below.setCell ?_ ?_ _) | (with_reducible refine below_step ?_ ?_ (by with_reducible assumption)) | go_size))
          have HF := free_any (some ⟨b, o, none⟩) l1 p1 ⟨ht, hs', hm⟩ w2 (H1.out.below bW2 (Nat.le_refl _)) (by omega) (HT.out.below bW2 HT.out.lt) HMX.out HM.out
          cases e3 : l1.any (agK ⟨ht, hs', hm⟩)
          · rw [e3] at HF
            have E3 := Lib.hid e3
            have HF := Lib.hid HF
            clear e3
            (refine anyT_step (i := 14) rfl (by kernel_rfl) (by decide) inv (fun K hK => ?_); go_simp; go_at_call 80; refine (HF.out).mono ?_; rintro e w3 ⟨rfl, hbw3⟩; have hz := hbw3.size; (try simp only [World.size_alloc, World.size_setCell, World.size_drew, size_drewN] at hz); (refine hK _ _ ⟨cell_later hbw3 t0, cell_later hbw3 t1, cell_later hbw3 t2, cell_later hbw3 k0⟩ (fun inv => ?_); clear hK K; (try simp only [Act.put, List.getElem_toArray, List.getElem_cons_zero, List.getElem_cons_succ, List.setIfInBounds_toArray, List.set_cons_zero, List.set_cons_succ])))
            have t0 := cell_later hbw3 t0
            have t1 := cell_later hbw3 t1
            have t2 := cell_later hbw3 t2
            have k0 := cell_later hbw3 k0
            ((refine anyT_take (i := 15) (v := ?_) rfl (by kernel_rfl) (by kernel_rfl) (by kernel_rfl) (fun _ _ _ h => h) (Or.inl ⟨by rfl, ?_⟩) ⟨t0, t1, t2, k0⟩ inv (fun inv => ?_); rotate_left; (· (intro w hSw; (try dsimp only at hSw); go_simp; with_reducible rfl)); (try simp only [Act.put, List.getElem_toArray, List.getElem_cons_zero, List.getElem_cons_succ, List.setIfInBounds_toArray, List.set_cons_zero, List.set_cons_succ])))
            (refine anyT_end (by kernel_rfl) ?_; simp only [List.drop_succ_cons, List.drop_zero])
            go_wp2
            go_roundw
            case rel =>
              have bW := bW'.out
              have z2 := hbw2.size
              have z3 := hbw3.size
              simp at z2
              refine ⟨k + 1, by omega, by go_num, Lib.hid ⟨?_, by (repeat' (first | (with_reducible exact Below.refl _ _) | (with_reducible assumption) | (with_reducible refine Below.alloc ?_ ?_ _) | (with_reducible refine Below.drew ?_) | (with_reducible refine below_drewN ?_) | (with_reducible refine Below.setCell ?_ ?_ _) | (with_reducible refine below_step ?_ ?_ (by with_reducible assumption)) | go_size)), by omega, ?_⟩⟩
              · refine (hbw3.block _ (by omega)).trans ((hbw2.block _ (by first | omega | (simp; omega))).trans ?_)
                exact WB.out.trans B0.out
              · intro j x hj hx
                rcases Nat.lt_or_eq_of_le (Nat.le_of_lt_succ hj) with hj' | rfl
                · exact HI.out.2.2.2 j x hj' hx
                · obtain rfl := Option.some.inj (hx.symm.trans HX.out)
                  exact ⟨by have := E2.out; show findM ht hs' (l1.take j) < 0; omega, E3.out⟩
            case measure => simp [intOf]; omega
          · rw [e3] at HF
            have E3 := Lib.hid e3
            have HF := Lib.hid HF
            clear e3
            (refine anyT_step (i := 14) rfl (by kernel_rfl) (by decide) inv (fun K hK => ?_); go_simp; go_at_call 80; refine (HF.out).mono ?_; rintro e w3 ⟨rfl, hbw3⟩; have hz := hbw3.size; (try simp only [World.size_alloc, World.size_setCell, World.size_drew, size_drewN] at hz); (refine hK _ _ ⟨cell_later hbw3 t0, cell_later hbw3 t1, cell_later hbw3 t2, cell_later hbw3 k0⟩ (fun inv => ?_); clear hK K; (try simp only [Act.put, List.getElem_toArray, List.getElem_cons_zero, List.getElem_cons_succ, List.setIfInBounds_toArray, List.set_cons_zero, List.set_cons_succ])))
            have t0 := cell_later hbw3 t0
            have t1 := cell_later hbw3 t1
            have t2 := cell_later hbw3 t2
            have k0 := cell_later hbw3 k0
            ((refine anyT_take (i := 15) (v := ?_) rfl (by kernel_rfl) (by kernel_rfl) (by kernel_rfl) (fun _ _ _ h => h) (Or.inl ⟨by rfl, ?_⟩) ⟨t0, t1, t2, k0⟩ inv (fun inv => ?_); rotate_left; (· (intro w hSw; (try dsimp only at hSw); go_simp; with_reducible rfl)); (try simp only [Act.put, List.getElem_toArray, List.getElem_cons_zero, List.getElem_cons_succ, List.setIfInBounds_toArray, List.set_cons_zero, List.set_cons_succ])))
            (refine anyT_end (by kernel_rfl) ?_; simp only [List.drop_succ_cons, List.drop_zero])
            go_wp2
            go_ret
            go_light
            exact ⟨by rw [chk_held HX.out (fun h => by have h1 := h.2; rw [E3.out] at h1; cases h1)]; rfl, by have bW := bW'.out; (repeat' (first | (with_reducible exact Below.refl _ _) | (with_reducible assumption) | (with_reducible refine Below.alloc ?_ ?_ _) | (with_reducible refine Below.drew ?_) | (with_reducible refine below_drewN ?_) | (with_reducible refine Below.setCell ?_ ?_ _) | (with_reducible refine below_step ?_ ?_ (by with_reducible assumption)) | go_size))⟩
      · obtain rfl : k = l1.length := by omega
        obtain ⟨b0, bel, sz, hheld⟩ := HI.out
        have k0 := Joins.cell_of_block b0 0
        have k1 := Joins.cell_of_block b0 1
        simp at k0 k1
        have HH := Lib.hid hheld
        have B0 := Lib.hid b0
        have BE := Lib.hid bel
        clear HI hheld b0 bel
        rename World => wo
        go_wp2
        go_loopw [48] (fun i wr => ∃ k : Nat, k ≤ l2.length ∧ i = .int .i64 k ∧ Hid (wr.heap[w.heap.size]? = some (.cells #[.slice a1 l1.length p1, .slice a2 l2.length p2] 41 (0, 0)) ∧ Below w.heap.size w wr ∧ w.heap.size + 1 ≤ wr.heap.size ∧ ∀ j x, j < k → l2[j]? = some x → queueGood l1 l2 j x)) (fun i _ => l2.length - (intOf i).toNat)
        case atStart => exact ⟨0, by omega, rfl, Lib.hid ⟨B0.out, BE.out, sz, fun j _ hj => absurd hj (Nat.not_lt_zero _)⟩⟩
        case round =>
          clear k0 k1 B0 BE
          obtain ⟨k, hk, rfl, HI⟩ := hrel
          by_cases hlt : k < l2.length
          · obtain ⟨b0, bel, sz2, -⟩ := HI.out
            obtain ⟨h, hx⟩ : ∃ h, l2[k]? = some h := ⟨l2[k], by simp [hlt]⟩
            obtain ⟨b, o, rfl, hb, c0, c1', c2'⟩ := H2.out.at hx
            obtain ⟨ht, hs', hm⟩ := h
            simp only at c0 c1' c2'
            have k0 := Joins.cell_of_block b0 0
            have k1 := Joins.cell_of_block b0 1
            simp at k0 k1
            have c0 := (bel.cell (p := ⟨b, o + k * 3, none⟩) hb).trans c0
            have c1 := (bel.cell (p := ⟨b, o + k * 3 + 1, none⟩) hb).trans c1'
            have c2 := (bel.cell (p := ⟨b, o + k * 3 + 2, none⟩) hb).trans c2'
            have i1 : (0 : Int) ≤ (k : Int) := by omega
            have i2 : (k : Int) < (l2.length : Int) := by omega
            have kp : (k : Int) ≤ (p2 : Int) := by omega
            have B0 := Lib.hid b0
            have hsz : hs'.size ≤ maxLen := M2.out _ (List.mem_of_getElem? hx)
            have HX := Lib.hid hx
            have KL : Hid ((l2.take k).length = k) := Lib.hid (by rw [List.length_take]; omega)
            have k0 := (cell_later (Joins.below_alloc1 wr (.cells #[.int .i64 ht, .string hs', .int .i64 hm] 82)) k0)
            have k1 := (cell_later (Joins.below_alloc1 wr (.cells #[.int .i64 ht, .string hs', .int .i64 hm] 82)) k1)
            have t0 : (wr.alloc (.cells #[.int .i64 ht, .string hs', .int .i64 hm] 82)).cell? ⟨wr.heap.size, 0, none⟩ = some (.int .i64 ht) := by simp
            have t1 : (wr.alloc (.cells #[.int .i64 ht, .string hs', .int .i64 hm] 82)).cell? ⟨wr.heap.size, 1, none⟩ = some (.string hs') := by simp
            have t2 : (wr.alloc (.cells #[.int .i64 ht, .string hs', .int .i64 hm] 82)).cell? ⟨wr.heap.size, 2, none⟩ = some (.int .i64 hm) := by simp
            have bW := bel
            clear b0 hx hb
            by_cases e1 : shapeM ⟨ht, hs', hm⟩ = 0
            · have e1' : (shapeM ⟨ht, hs', hm⟩ != 0) = false := by simpa using e1
              have HMX : Hid (modeB hm = true) := Lib.hid (shape_mode e1).1
              cases e2 : (l2.take k).any (sameX ⟨ht, hs', hm⟩)
              · have E2 := Lib.hid e2
                rcases find_mode ht hs' l1 with ⟨f1, -, -⟩ | ⟨j, y, f1, f2, -, f4⟩
                · have F1 := Lib.hid f1
                  have HB : Hid (findM ht hs' l1 < 0 ∨ (joinB (modeM ht hs' l1) hm = hm ∧ modeM ht hs' l1 ≠ hm)) := Lib.hid (.inl (by omega))
                  clear f1
                  go_wp2_with (first | (go_at_call 78; refine (shape_any ⟨ht, hs', hm⟩ _ hsz).mono ?_; rintro e w1 ⟨rfl, hb1⟩; have hz := hb1.size; (try simp only [World.size_alloc, World.size_setCell, World.size_drew, size_drewN] at hz); have t0 := cell_later hb1 t0; have t1 := cell_later hb1 t1; have t2 := cell_later hb1 t2; have k0 := cell_later hb1 k0; have k1 := cell_later hb1 k1; have z1 : wr.heap.size < w1.heap.size := (by omega)) | (go_at_call 76; refine (containsFunc_at _ (l2.take k) k p2 81 _ (sameX ⟨ht, hs', hm⟩) _ entersC2 KL.out ((H2.out.below (by (repeat' (first | (with_reducible exact Below.refl _ _) | (with_reducible assumption) | (with_reducible refine Below.alloc ?_ ?_ _) | (with_reducible refine Below.drew ?_) | (with_reducible refine below_drewN ?_) | (with_reducible refine Below.setCell ?_ ?_ _) | (with_reducible refine below_step ?_ ?_ (by with_reducible assumption)) | go_size))) (Nat.le_refl _)).take k) (check2_pred ⟨ht, hs', hm⟩ wr.heap.size _ _ (by omega) (by go_simp)) (by omega)).mono ?_; rw [e2]; rintro e w2 ⟨rfl, hb2⟩; have hz2 := hb2.size; have t0 := cell_later hb2 t0; have t1 := cell_later hb2 t1; have t2 := cell_later hb2 t2; have k0 := cell_later hb2 k0; have k1 := cell_later hb2 k1) | (go_at_call 79; have HFi := find_any a1 l1 p1 ht hs' _ (H1.out.below (show Below w.heap.size w w2 by (repeat' (first | (with_reducible exact Below.refl _ _) | (with_reducible assumption) | (with_reducible refine Below.alloc ?_ ?_ _) | (with_reducible refine Below.drew ?_) | (with_reducible refine below_drewN ?_) | (with_reducible refine Below.setCell ?_ ?_ _) | (with_reducible refine below_step ?_ ?_ (by with_reducible assumption)) | go_size))) (Nat.le_refl _)) (by omega); rw [F1.out] at HFi; refine HFi.mono ?_; clear HFi; rintro e w3 ⟨rfl, hb3⟩; have hz3 := hb3.size; have t0 := cell_later hb3 t0; have t1 := cell_later hb3 t1; have t2 := cell_later hb3 t2; have k0 := cell_later hb3 k0; have k1 := cell_later hb3 k1))
                  have bW3 : Below w.heap.size w w3 := by (repeat' (first | (with_reducible exact Below.refl _ _) | (with_reducible assumption) | (with_reducible refine Below.alloc ?_ ?_ _) | (with_reducible refine Below.drew ?_) | (with_reducible refine below_drewN ?_) | (with_reducible refine Below.setCell ?_ ?_ _) | (with_reducible refine below_step ?_ ?_ (by with_reducible assumption)) | go_size))
                  have hz4 := hb1.size
                  simp only [World.size_alloc] at hz4
                  have B3 : Hid (w3.heap[w.heap.size]? = some (.cells #[.slice a1 l1.length p1, .slice (some ⟨b, o, none⟩) l2.length p2] 41 (0, 0))) := Lib.hid ((hb3.block _ (by omega)).trans ((hb2.block _ (by omega)).trans ((hb1.block _ (by simp only [World.size_alloc]; omega)).trans ((Below.heap_alloc _ _ _ (by omega)).trans B0.out))))
                  have X3 := Lib.hid bW3
                  have Z3 : w.heap.size + 1 ≤ w3.heap.size := by omega
                  clear bW3 hb1 hb2 hb3 hz hz2 hz3 hz4 z1 bel bW c0 c1 c2 c1' c2'
                  go_quiet (fail)
                  generalize hq1 : w3.drewN nq = w4
                  have h3 : w4.heap = w3.heap := by rw [← hq1]; rfl
                  have X4 : Hid (Below w.heap.size w w4) := by rw [← hq1]; exact below_drewN X3.out
                  have k0 : w4.cell? ⟨w.heap.size, 0, none⟩ = some (.slice a1 l1.length p1) := (World.cell?_of_block (by rw [h3])).trans k0
                  have k1 : w4.cell? ⟨w.heap.size, 1, none⟩ = some (.slice (some ⟨b, o, none⟩) l2.length p2) := (World.cell?_of_block (by rw [h3])).trans k1
                  have B4 : Hid (w4.heap[w.heap.size]? = some (.cells #[.slice a1 l1.length p1, .slice (some ⟨b, o, none⟩) l2.length p2] 41 (0, 0))) := by rw [h3]; exact B3
                  have Z4 : w.heap.size + 1 ≤ w4.heap.size := by rw [h3]; exact Z3
                  have FI := Lib.hid (first_any _ (some ⟨b, o, none⟩) l1 l2 p1 p2 k ⟨ht, hs', hm⟩ w4 (H1.out.below X4.out (Nat.le_refl _)) (H2.out.below X4.out (Nat.le_refl _)) (by omega) (by omega) q2 (HT.out.below X4.out HT.out.lt) HX.out HMX.out HM.out)
                  clear hq1 h3 X3 B3 Z3 t0 t1 t2
                  cases e5 : firstM l1 l2 k ⟨ht, hs', hm⟩
                  · rw [e5] at FI
                    have E5 := Lib.hid e5
                    clear e5
                    go_wp2_with (go_at_call 49; refine FI.out.mono ?_; rintro e w5 ⟨rfl, hb5⟩)
                    go_roundw
                    case rel =>
                      refine ⟨k + 1, by omega, by go_num, Lib.hid ⟨(hb5.block _ (by omega)).trans B4.out, by have := X4.out; (repeat' (first | (with_reducible exact Below.refl _ _) | (with_reducible assumption) | (with_reducible refine Below.alloc ?_ ?_ _) | (with_reducible refine Below.drew ?_) | (with_reducible refine below_drewN ?_) | (with_reducible refine Below.setCell ?_ ?_ _) | (with_reducible refine below_step ?_ ?_ (by with_reducible assumption)) | go_size)), by have := hb5.size; omega, ?_⟩⟩
                      intro i x hi hx
                      rcases Nat.lt_or_eq_of_le (Nat.le_of_lt_succ hi) with hi' | rfl
                      · exact HI.out.2.2.2 i x hi' hx
                      · obtain rfl := Option.some.inj (hx.symm.trans HX.out)
                        exact ⟨e1, E2.out, HB.out, E5.out⟩
                    case measure => simp [intOf]; omega
                  · rw [e5] at FI
                    have E5 := Lib.hid e5
                    clear e5
                    go_wp2_with (go_at_call 49; refine FI.out.mono ?_; rintro e w5 ⟨rfl, hb5⟩)
                    go_ret
                    go_light
                    exact ⟨by rw [chk_queue HX.out (fun h => by have h1 := h.2.2.2; rw [E5.out] at h1; cases h1)]; rfl, by have := X4.out; (repeat' (first | (with_reducible exact Below.refl _ _) | (with_reducible assumption) | (with_reducible refine Below.alloc ?_ ?_ _) | (with_reducible refine Below.drew ?_) | (with_reducible refine below_drewN ?_) | (with_reducible refine Below.setCell ?_ ?_ _) | (with_reducible refine below_step ?_ ?_ (by with_reducible assumption)) | go_size))⟩
                · have F1 := Lib.hid f1
                  obtain ⟨bj, oj, rfl, hbj, -, -, d2⟩ := H1.out.at f2
                  have hjl := (List.getElem?_eq_some_iff.1 f2).1
                  obtain ⟨y1, y2⟩ := modeB_iff.1 (HM.out y (List.mem_of_getElem? f2))
                  obtain ⟨m1, m2⟩ := modeB_iff.1 HMX.out
                  obtain ⟨yt, ys, ym⟩ := y
                  simp only at d2 y1 y2 f4
                  have j1 : (0 : Int) ≤ (j : Int) := by omega
                  have j2 : (j : Int) < (l1.length : Int) := by omega
                  have F4 := Lib.hid f4
                  clear f1 f2 f4
                  go_wp2_with (first | (go_at_call 78; refine (shape_any ⟨ht, hs', hm⟩ _ hsz).mono ?_; rintro e w1 ⟨rfl, hb1⟩; have hz := hb1.size; (try simp only [World.size_alloc, World.size_setCell, World.size_drew, size_drewN] at hz); have t0 := cell_later hb1 t0; have t1 := cell_later hb1 t1; have t2 := cell_later hb1 t2; have k0 := cell_later hb1 k0; have k1 := cell_later hb1 k1; have z1 : wr.heap.size < w1.heap.size := (by omega)) | (go_at_call 76; refine (containsFunc_at _ (l2.take k) k p2 81 _ (sameX ⟨ht, hs', hm⟩) _ entersC2 KL.out ((H2.out.below (by (repeat' (first | (with_reducible exact Below.refl _ _) | (with_reducible assumption) | (with_reducible refine Below.alloc ?_ ?_ _) | (with_reducible refine Below.drew ?_) | (with_reducible refine below_drewN ?_) | (with_reducible refine Below.setCell ?_ ?_ _) | (with_reducible refine below_step ?_ ?_ (by with_reducible assumption)) | go_size))) (Nat.le_refl _)).take k) (check2_pred ⟨ht, hs', hm⟩ wr.heap.size _ _ (by omega) (by go_simp)) (by omega)).mono ?_; rw [e2]; rintro e w2 ⟨rfl, hb2⟩; have hz2 := hb2.size; have t0 := cell_later hb2 t0; have t1 := cell_later hb2 t1; have t2 := cell_later hb2 t2; have k0 := cell_later hb2 k0; have k1 := cell_later hb2 k1) | (go_at_call 79; have HFi := find_any _ l1 p1 ht hs' _ (H1.out.below (show Below w.heap.size w w2 by (repeat' (first | (with_reducible exact Below.refl _ _) | (with_reducible assumption) | (with_reducible refine Below.alloc ?_ ?_ _) | (with_reducible refine Below.drew ?_) | (with_reducible refine below_drewN ?_) | (with_reducible refine Below.setCell ?_ ?_ _) | (with_reducible refine below_step ?_ ?_ (by with_reducible assumption)) | go_size))) (Nat.le_refl _)) (by omega); rw [F1.out] at HFi; refine HFi.mono ?_; clear HFi; rintro e w3 ⟨rfl, hb3⟩; have hz3 := hb3.size; have t0 := cell_later hb3 t0; have t1 := cell_later hb3 t1; have t2 := cell_later hb3 t2; have k0 := cell_later hb3 k0; have k1 := cell_later hb3 k1))
                  have bW3 : Below w.heap.size w w3 := by (repeat' (first | (with_reducible exact Below.refl _ _) | (with_reducible assumption) | (with_reducible refine Below.alloc ?_ ?_ _) | (with_reducible refine Below.drew ?_) | (with_reducible refine below_drewN ?_) | (with_reducible refine Below.setCell ?_ ?_ _) | (with_reducible refine below_step ?_ ?_ (by with_reducible assumption)) | go_size))
                  have hz4 := hb1.size
                  simp only [World.size_alloc] at hz4
                  have B3 : Hid (w3.heap[w.heap.size]? = some (.cells #[.slice (some ⟨bj, oj, none⟩) l1.length p1, .slice (some ⟨b, o, none⟩) l2.length p2] 41 (0, 0))) := Lib.hid ((hb3.block _ (by omega)).trans ((hb2.block _ (by omega)).trans ((hb1.block _ (by simp only [World.size_alloc]; omega)).trans ((Below.heap_alloc _ _ _ (by omega)).trans B0.out))))
                  have X3 := Lib.hid bW3
                  have Z3 : w.heap.size + 1 ≤ w3.heap.size := by omega
                  have d2 := (bW3.cell (p := ⟨bj, oj + j * 3 + 2, none⟩) hbj).trans d2
                  have jc := (HJ.out.below bW3 HJ.out.lt).at (a := ym) (b := hm) (by omega) (by omega)
                  have m3 : (0 : Int) ≤ ym := by omega
                  have m4 : ym < 6 := by omega
                  have m5 : (0 : Int) ≤ hm := by omega
                  have m6 : hm < 6 := by omega
                  clear bW3 hb1 hb2 hb3 hz hz2 hz3 hz4 z1 bel bW c0 c1 c2 c1' c2'
                  by_cases e3 : joinB ym hm = hm
                  · have e3d : (joinB ym hm != hm) = false := by simpa using e3
                    by_cases e4 : ym = hm
                    · have e4d : (ym == hm) = true := by simpa using e4
                      have HB : Hid (¬(findM ht hs' l1 < 0 ∨ (joinB (modeM ht hs' l1) hm = hm ∧ modeM ht hs' l1 ≠ hm))) := Lib.hid (by rw [F1.out, F4.out]; exact fun h => h.elim (fun h => by omega) (fun h => h.2 e4))
                      have E3 := Lib.hid e3
                      have E4 := Lib.hid e4
                      clear e3 e4
                      go_quiet (fail)
                      go_wp2
                      go_ret
                      go_light
                      exact ⟨by rw [chk_queue HX.out (fun h => HB.out h.2.2.1)]; rfl, below_drewN X3.out⟩
                    · have e4d : (ym == hm) = false := by simpa using e4
                      have HB : Hid (findM ht hs' l1 < 0 ∨ (joinB (modeM ht hs' l1) hm = hm ∧ modeM ht hs' l1 ≠ hm)) := Lib.hid (by rw [F4.out]; exact .inr ⟨e3, e4⟩)
                      clear e3 e4
                      go_quiet (fail)
                      generalize hq1 : w3.drewN nq = w4
                      have h3 : w4.heap = w3.heap := by rw [← hq1]; rfl
                      have X4 : Hid (Below w.heap.size w w4) := by rw [← hq1]; exact below_drewN X3.out
                      have k0 : w4.cell? ⟨w.heap.size, 0, none⟩ = some (.slice (some ⟨bj, oj, none⟩) l1.length p1) := (World.cell?_of_block (by rw [h3])).trans k0
                      have k1 : w4.cell? ⟨w.heap.size, 1, none⟩ = some (.slice (some ⟨b, o, none⟩) l2.length p2) := (World.cell?_of_block (by rw [h3])).trans k1
                      have B4 : Hid (w4.heap[w.heap.size]? = some (.cells #[.slice (some ⟨bj, oj, none⟩) l1.length p1, .slice (some ⟨b, o, none⟩) l2.length p2] 41 (0, 0))) := by rw [h3]; exact B3
                      have Z4 : w.heap.size + 1 ≤ w4.heap.size := by rw [h3]; exact Z3
                      have FI := Lib.hid (first_any _ (some ⟨b, o, none⟩) l1 l2 p1 p2 k ⟨ht, hs', hm⟩ w4 (H1.out.below X4.out (Nat.le_refl _)) (H2.out.below X4.out (Nat.le_refl _)) (by omega) (by omega) q2 (HT.out.below X4.out HT.out.lt) HX.out HMX.out HM.out)
                      clear hq1 h3 X3 B3 Z3 t0 t1 t2
                      cases e5 : firstM l1 l2 k ⟨ht, hs', hm⟩
                      · rw [e5] at FI
                        have E5 := Lib.hid e5
                        clear e5
                        go_wp2_with (go_at_call 49; refine FI.out.mono ?_; rintro e w5 ⟨rfl, hb5⟩)
                        go_roundw
                        case rel =>
                          refine ⟨k + 1, by omega, by go_num, Lib.hid ⟨(hb5.block _ (by omega)).trans B4.out, by have := X4.out; (repeat' (first | (with_reducible exact Below.refl _ _) | (with_reducible assumption) | (with_reducible refine Below.alloc ?_ ?_ _) | (with_reducible refine Below.drew ?_) | (with_reducible refine below_drewN ?_) | (with_reducible refine Below.setCell ?_ ?_ _) | (with_reducible refine below_step ?_ ?_ (by with_reducible assumption)) | go_size)), by have := hb5.size; omega, ?_⟩⟩
                          intro i x hi hx
                          rcases Nat.lt_or_eq_of_le (Nat.le_of_lt_succ hi) with hi' | rfl
                          · exact HI.out.2.2.2 i x hi' hx
                          · obtain rfl := Option.some.inj (hx.symm.trans HX.out)
                            exact ⟨e1, E2.out, HB.out, E5.out⟩
                        case measure => simp [intOf]; omega
                      · rw [e5] at FI
                        have E5 := Lib.hid e5
                        clear e5
                        go_wp2_with (go_at_call 49; refine FI.out.mono ?_; rintro e w5 ⟨rfl, hb5⟩)
                        go_ret
                        go_light
                        exact ⟨by rw [chk_queue HX.out (fun h => by have h1 := h.2.2.2; rw [E5.out] at h1; cases h1)]; rfl, by have := X4.out; (repeat' (first | (with_reducible exact Below.refl _ _) | (with_reducible assumption) | (with_reducible refine Below.alloc ?_ ?_ _) | (with_reducible refine Below.drew ?_) | (with_reducible refine below_drewN ?_) | (with_reducible refine Below.setCell ?_ ?_ _) | (with_reducible refine below_step ?_ ?_ (by with_reducible assumption)) | go_size))⟩
                  · have e3d : (joinB ym hm != hm) = true := by simpa using e3
                    have HB : Hid (¬(findM ht hs' l1 < 0 ∨ (joinB (modeM ht hs' l1) hm = hm ∧ modeM ht hs' l1 ≠ hm))) := Lib.hid (by rw [F1.out, F4.out]; exact fun h => h.elim (fun h => by omega) (fun h => e3 h.1))
                    clear e3
                    go_quiet (fail)
                    go_wp2
                    go_ret
                    go_light
                    exact ⟨by rw [chk_queue HX.out (fun h => HB.out h.2.2.1)]; rfl, below_drewN X3.out⟩
              · have E2 := Lib.hid e2
                go_wp2_with (first | (go_at_call 78; refine (shape_any ⟨ht, hs', hm⟩ _ hsz).mono ?_; rintro e w1 ⟨rfl, hb1⟩; have hz := hb1.size; (try simp only [World.size_alloc, World.size_setCell, World.size_drew, size_drewN] at hz); have t0 := cell_later hb1 t0; have t1 := cell_later hb1 t1; have t2 := cell_later hb1 t2; have k0 := cell_later hb1 k0; have k1 := cell_later hb1 k1; have z1 : wr.heap.size < w1.heap.size := (by omega)) | (go_at_call 76; refine (containsFunc_at _ (l2.take k) k p2 81 _ (sameX ⟨ht, hs', hm⟩) _ entersC2 KL.out ((H2.out.below (by (repeat' (first | (with_reducible exact Below.refl _ _) | (with_reducible assumption) | (with_reducible refine Below.alloc ?_ ?_ _) | (with_reducible refine Below.drew ?_) | (with_reducible refine below_drewN ?_) | (with_reducible refine Below.setCell ?_ ?_ _) | (with_reducible refine below_step ?_ ?_ (by with_reducible assumption)) | go_size))) (Nat.le_refl _)).take k) (check2_pred ⟨ht, hs', hm⟩ wr.heap.size _ _ (by omega) (by go_simp)) (by omega)).mono ?_; rw [e2]; rintro e w2 ⟨rfl, hb2⟩; have hz2 := hb2.size; have t0 := cell_later hb2 t0; have t1 := cell_later hb2 t1; have t2 := cell_later hb2 t2; have k0 := cell_later hb2 k0; have k1 := cell_later hb2 k1))
                go_ret
                go_light
                exact ⟨by rw [chk_queue HX.out (fun h => by have h1 := h.2.1; rw [E2.out] at h1; cases h1)]; rfl, by (repeat' (first | (with_reducible exact Below.refl _ _) | (with_reducible assumption) | (with_reducible refine Below.alloc ?_ ?_ _) | (with_reducible refine Below.drew ?_) | (with_reducible refine below_drewN ?_) | (with_reducible refine Below.setCell ?_ ?_ _) | (with_reducible refine below_step ?_ ?_ (by with_reducible assumption)) | go_size))⟩
            · have e1' : (shapeM ⟨ht, hs', hm⟩ != 0) = true := by simpa using e1
              go_wp2_with (go_at_call 78; refine (shape_any ⟨ht, hs', hm⟩ _ hsz).mono ?_; rintro e w1 ⟨rfl, hb1⟩; have hz := hb1.size; (try simp only [World.size_alloc, World.size_setCell, World.size_drew, size_drewN] at hz); have t0 := cell_later hb1 t0; have t1 := cell_later hb1 t1; have t2 := cell_later hb1 t2; have k0 := cell_later hb1 k0; have k1 := cell_later hb1 k1; have z1 : wr.heap.size < w1.heap.size := (by omega))
              go_ret
              go_light
              exact ⟨by rw [chk_queue HX.out (fun h => e1 h.1)]; rfl, by (repeat' (first | (with_reducible exact Below.refl _ _) | (with_reducible assumption) | (with_reducible refine Below.alloc ?_ ?_ _) | (with_reducible refine Below.drew ?_) | (with_reducible refine below_drewN ?_) | (with_reducible refine Below.setCell ?_ ?_ _) | (with_reducible refine below_step ?_ ?_ (by with_reducible assumption)) | go_size))⟩
          · obtain rfl : k = l2.length := by omega
            obtain ⟨b0, bel, sz2, hq⟩ := HI.out
            have HQ := Lib.hid hq
            have BE := Lib.hid bel
            clear HI hq b0 bel
            go_wp2
            go_ret
            go_light
            exact ⟨by rw [chk_yes_of (by omega) HS.out (fun j x hj => HH.out j x hj) (fun j x hj => HQ.out j x hj)]; rfl, BE.out⟩
  · rw [e0] at HC
    have E0 := Lib.hid e0
    clear e0
    go_enter Tryd.func45, Tryd.ntmps45
    go_wp2_with (go_at_call 76; refine (HC.out _).mono ?_; rintro e w1 ⟨rfl, hb1⟩)
    go_ret
    go_light
    exact ⟨by rw [chk_shape E0.out]; rfl, by have := B1.out; (repeat' (first | (with_reducible exact Below.refl _ _) | (with_reducible assumption) | (with_reducible refine Below.alloc ?_ ?_ _) | (with_reducible refine Below.drew ?_) | (with_reducible refine below_drewN ?_) | (with_reducible refine Below.setCell ?_ ?_ _) | (with_reducible refine below_step ?_ ?_ (by with_reducible assumption)) | go_size))⟩
end Go.Proofs.YteebiklebedneaaDoor
/- The reference's LocksFault. -/
namespace Go.Proofs.YteebiklebedneaaDoor
open Go.RowKit Go.Joins
theorem slice_form {w : World} {base n : Nat} {v : Value} {l : List Value} (h : w.ownsRow base 3 1 v n l) : ∃ a c, v = .slice a n c := by
  rcases Joins.ownsRow_forms h with ⟨rfl, hv⟩ | ⟨g2, cap2, rfl⟩
  · exact ⟨none, 0, by rw [hv]⟩
  · exact ⟨_, _, rfl⟩
set_option maxRecDepth 100000 in
set_option maxHeartbeats 4000000 in
theorem locksFault_any (a1 a2 : Option Addr) (l1 l2 : List LK) (p1 p2 : Nat) (w : World) (h1 : LksAt w a1 l1) (h2 : LksAt w a2 l2) (n1 : l1.length ≤ 1048576) (n2 : l2.length ≤ 1048576) (q1 : l1.length ≤ p1) (q2 : l2.length ≤ p2) (m1 : ∀ x ∈ l1, x.s.size ≤ maxLen) (m2 : ∀ x ∈ l2, x.s.size ≤ maxLen) :
    Calls Tryd.prog 52 #[.agg #[.slice a1 l1.length p1, .slice a2 l2.length p2]] w fun e w' => e = .returned (.int .i64 (chkM l1 l2)) ∧ Below w.heap.size w w' := by
  have H1 := Lib.hid h1
  have H2 := Lib.hid h2
  have M1 := Lib.hid m1
  have M2 := Lib.hid m2
  clear h1 h2 m1 m2
  by_cases hs : 200 < l1.length + l2.length
  · go_enter Tryd.func52, Tryd.ntmps52
    go_wp2
    go_ret
    go_light
    exact ⟨by rw [chk_many hs]; rfl, by (repeat' (first | (with_reducible exact Below.refl _ _) | (with_reducible assumption) | (with_reducible refine Below.alloc ?_ ?_ _) | (with_reducible refine Below.drew ?_) | (with_reducible refine below_drewN ?_) | (with_reducible refine Below.setCell ?_ ?_ _) | (with_reducible refine below_step ?_ ?_ (by with_reducible assumption)) | go_size))⟩
  have hs' : l1.length + l2.length ≤ 200 := by omega
  clear hs
  go_enter Tryd.func52, Tryd.ntmps52
  go_wp2
  go_loopw [3] (fun i wr => ∃ k : Nat, k ≤ l1.length ∧ i = .int .i64 k ∧ Hid (wr.heap[w.heap.size]? = some (.cells #[.slice a1 l1.length p1, .slice a2 l2.length p2] 41 (0, 0)) ∧ Below w.heap.size w wr ∧ w.heap.size + 1 ≤ wr.heap.size ∧ ∀ j x, j < k → l1[j]? = some x → heldRef l1 j x)) (fun i _ => l1.length - (intOf i).toNat)
  case atStart => exact ⟨0, by omega, rfl, Lib.hid ⟨new_at _ _ _ rfl, Joins.below_alloc1 _ _, by simp, fun j _ hj => absurd hj (Nat.not_lt_zero _)⟩⟩
  case round =>
    obtain ⟨k, hk, rfl, HI⟩ := hrel
    by_cases hlt : k < l1.length
    · obtain ⟨b0, bel, sz, -⟩ := HI.out
      obtain ⟨h, hx⟩ : ∃ h, l1[k]? = some h := ⟨l1[k], by simp [hlt]⟩
      obtain ⟨b, o, rfl, hb, c0, c1', c2'⟩ := H1.out.at hx
      obtain ⟨ht, hs', hm⟩ := h
      simp only at c0 c1' c2'
      have k0 := Joins.cell_of_block b0 0
      have k1 := Joins.cell_of_block b0 1
      simp at k0 k1
      have c0 := (bel.cell (p := ⟨b, o + k * 3, none⟩) hb).trans c0
      have c1 := (bel.cell (p := ⟨b, o + k * 3 + 1, none⟩) hb).trans c1'
      have c2 := (bel.cell (p := ⟨b, o + k * 3 + 2, none⟩) hb).trans c2'
      have i1 : (0 : Int) ≤ (k : Int) := by omega
      have i2 : (k : Int) < (l1.length : Int) := by omega
      have B0 := Lib.hid b0
      have BE := Lib.hid bel
      have bel' := bel
      clear b0 bel
      go_wp2
      have bW := bel'.alloc (by omega) (.cells #[.int .i64 ht, .string hs', .int .i64 hm] 82)
      have t0 : (wr.alloc (.cells #[.int .i64 ht, .string hs', .int .i64 hm] 82)).cell? ⟨wr.heap.size, 0, none⟩ = some (.int .i64 ht) := by simp
      have t1 : (wr.alloc (.cells #[.int .i64 ht, .string hs', .int .i64 hm] 82)).cell? ⟨wr.heap.size, 1, none⟩ = some (.string hs') := by simp
      have t2 : (wr.alloc (.cells #[.int .i64 ht, .string hs', .int .i64 hm] 82)).cell? ⟨wr.heap.size, 2, none⟩ = some (.int .i64 hm) := by simp
      have k0 := (cell_later (Joins.below_alloc1 wr (.cells #[.int .i64 ht, .string hs', .int .i64 hm] 82)) k0)
      have zW : wr.heap.size < (wr.alloc (.cells #[.int .i64 ht, .string hs', .int .i64 hm] 82)).heap.size := by simp
      have WB := Lib.hid (Below.heap_alloc wr (.cells #[.int .i64 ht, .string hs', .int .i64 hm] 82) w.heap.size (by omega))
      generalize hW : wr.alloc (.cells #[.int .i64 ht, .string hs', .int .i64 hm] 82) = W at bW t0 t1 t2 k0 zW WB ⊢
      have hsz : hs'.size ≤ maxLen := M1.out _ (List.mem_of_getElem? hx)
      have HX := Lib.hid hx
      have bW' := Lib.hid bW
      have HL := Lib.hid (H1.out.below bel' (Nat.le_refl _))
      clear hx bW bel'
      by_cases e1 : shapeM ⟨ht, hs', hm⟩ = 0
      · have e1' : (shapeM ⟨ht, hs', hm⟩ != 0) = false := by simpa using e1
        have kp : (k : Int) ≤ (p1 : Int) := by omega
        have kl : (l1.take k).length = k := by rw [List.length_take]; omega
        have KL := Lib.hid kl
        clear kl
        refine wp_cut (fun w' : World => w'.cell? ⟨wr.heap.size, 0, none⟩ = some (.int .i64 ht) ∧ w'.cell? ⟨wr.heap.size, 1, none⟩ = some (.string hs') ∧ w'.cell? ⟨wr.heap.size, 2, none⟩ = some (.int .i64 hm) ∧ w'.cell? ⟨w.heap.size, 0, none⟩ = some (.slice (some ⟨b, o, none⟩) l1.length p1)) 22 (by kernel_rfl) (by kernel_rfl) (fun inv => ?_)
        ((refine anyT_take (i := 0) (v := ?_) rfl (by kernel_rfl) (by kernel_rfl) (by kernel_rfl) (fun _ _ _ h => h) (Or.inl ⟨by rfl, ?_⟩) ⟨t0, t1, t2, k0⟩ inv (fun inv => ?_); rotate_left; (· (intro w hSw; (try dsimp only at hSw); go_simp; with_reducible rfl)); (try simp only [Act.put, List.getElem_toArray, List.getElem_cons_zero, List.getElem_cons_succ, List.setIfInBounds_toArray, List.set_cons_zero, List.set_cons_succ])))
        (refine anyT_step (i := 1) rfl (by kernel_rfl) (by decide) inv (fun K hK => ?_); go_simp; go_at_call 84; refine (lockFault_any ⟨ht, hs', hm⟩ _ hsz).mono ?_; rintro e w1 ⟨rfl, hbw1⟩; have hz := hbw1.size; (try simp only [World.size_alloc, World.size_setCell, World.size_drew, size_drewN] at hz); (refine hK _ _ ⟨cell_later hbw1 t0, cell_later hbw1 t1, cell_later hbw1 t2, cell_later hbw1 k0⟩ (fun inv => ?_); clear hK K; (try simp only [Act.put, List.getElem_toArray, List.getElem_cons_zero, List.getElem_cons_succ, List.setIfInBounds_toArray, List.set_cons_zero, List.set_cons_succ])))
        have t0 := cell_later hbw1 t0
        have t1 := cell_later hbw1 t1
        have t2 := cell_later hbw1 t2
        have k0 := cell_later hbw1 k0
        have HL1 := Lib.hid ((H1.out.below (show Below w.heap.size w w1 by have bW := bW'.out; (repeat' (first | (with_reducible exact Below.refl _ _) | (with_reducible assumption) | (with_reducible refine Below.alloc ?_ ?_ _) | (with_reducible refine Below.drew ?_) | (with_reducible refine below_drewN ?_) | (with_reducible refine Below.setCell ?_ ?_ _) | (with_reducible refine below_step ?_ ?_ (by with_reducible assumption)) | go_size))) (Nat.le_refl _)).take k)
        ((refine anyT_take (i := 2) (v := ?_) rfl (by kernel_rfl) (by kernel_rfl) (by kernel_rfl) (fun _ _ _ h => h) (Or.inl ⟨by rfl, ?_⟩) ⟨t0, t1, t2, k0⟩ inv (fun inv => ?_); rotate_left; (· (intro w hSw; (try dsimp only at hSw); go_simp; with_reducible rfl)); (try simp only [Act.put, List.getElem_toArray, List.getElem_cons_zero, List.getElem_cons_succ, List.setIfInBounds_toArray, List.set_cons_zero, List.set_cons_succ])); (refine anyT_take (i := 3) (v := ?_) rfl (by kernel_rfl) (by kernel_rfl) (by kernel_rfl) (fun _ _ _ h => h) (Or.inl ⟨by rfl, ?_⟩) ⟨t0, t1, t2, k0⟩ inv (fun inv => ?_); rotate_left; (· (intro w hSw; (try dsimp only at hSw); go_simp; with_reducible rfl)); (try simp only [Act.put, List.getElem_toArray, List.getElem_cons_zero, List.getElem_cons_succ, List.setIfInBounds_toArray, List.set_cons_zero, List.set_cons_succ])); (refine anyT_take (i := 4) (v := ?_) rfl (by kernel_rfl) (by kernel_rfl) (by kernel_rfl) (fun _ _ _ h => h) (Or.inl ⟨by rfl, ?_⟩) ⟨t0, t1, t2, k0⟩ inv (fun inv => ?_); rotate_left; (· (intro w hSw; (try dsimp only at hSw); go_simp; with_reducible rfl)); (try simp only [Act.put, List.getElem_toArray, List.getElem_cons_zero, List.getElem_cons_succ, List.setIfInBounds_toArray, List.set_cons_zero, List.set_cons_succ])); (refine anyT_take (i := 5) (v := ?_) rfl (by kernel_rfl) (by kernel_rfl) (by kernel_rfl) (fun _ _ _ h => h) (Or.inl ⟨by rfl, ?_⟩) ⟨t0, t1, t2, k0⟩ inv (fun inv => ?_); rotate_left; (· (intro w hSw; (try dsimp only at hSw); go_simp; with_reducible rfl)); (try simp only [Act.put, List.getElem_toArray, List.getElem_cons_zero, List.getElem_cons_succ, List.setIfInBounds_toArray, List.set_cons_zero, List.set_cons_succ])); (refine anyT_take (i := 6) (v := ?_) rfl (by kernel_rfl) (by kernel_rfl) (by kernel_rfl) (fun _ _ _ h => h) (Or.inl ⟨by rfl, ?_⟩) ⟨t0, t1, t2, k0⟩ inv (fun inv => ?_); rotate_left; (· (intro w hSw; (try dsimp only at hSw); go_simp; with_reducible rfl)); (try simp only [Act.put, List.getElem_toArray, List.getElem_cons_zero, List.getElem_cons_succ, List.setIfInBounds_toArray, List.set_cons_zero, List.set_cons_succ])); (refine anyT_take (i := 7) (v := ?_) rfl (by kernel_rfl) (by kernel_rfl) (by kernel_rfl) (fun _ _ _ h => h) (Or.inl ⟨by rfl, ?_⟩) ⟨t0, t1, t2, k0⟩ inv (fun inv => ?_); rotate_left; (· (intro w hSw; (try dsimp only at hSw); go_simp; with_reducible rfl)); (try simp only [Act.put, List.getElem_toArray, List.getElem_cons_zero, List.getElem_cons_succ, List.setIfInBounds_toArray, List.set_cons_zero, List.set_cons_succ])); (refine anyT_take (i := 8) (v := ?_) rfl (by kernel_rfl) (by kernel_rfl) (by kernel_rfl) (fun _ _ _ h => h) (Or.inl ⟨by rfl, ?_⟩) ⟨t0, t1, t2, k0⟩ inv (fun inv => ?_); rotate_left; (· (intro w hSw; (try dsimp only at hSw); go_simp; with_reducible rfl)); (try simp only [Act.put, List.getElem_toArray, List.getElem_cons_zero, List.getElem_cons_succ, List.setIfInBounds_toArray, List.set_cons_zero, List.set_cons_succ])); (refine anyT_take (i := 9) (v := ?_) rfl (by kernel_rfl) (by kernel_rfl) (by kernel_rfl) (fun _ _ _ h => h) (Or.inl ⟨by rfl, ?_⟩) ⟨t0, t1, t2, k0⟩ inv (fun inv => ?_); rotate_left; (· (intro w hSw; (try dsimp only at hSw); go_simp; with_reducible rfl)); (try simp only [Act.put, List.getElem_toArray, List.getElem_cons_zero, List.getElem_cons_succ, List.setIfInBounds_toArray, List.set_cons_zero, List.set_cons_succ])); (refine anyT_take (i := 10) (v := ?_) rfl (by kernel_rfl) (by kernel_rfl) (by kernel_rfl) (fun _ _ _ h => h) (Or.inl ⟨by rfl, ?_⟩) ⟨t0, t1, t2, k0⟩ inv (fun inv => ?_); rotate_left; (· (intro w hSw; (try dsimp only at hSw); go_simp; with_reducible rfl)); (try simp only [Act.put, List.getElem_toArray, List.getElem_cons_zero, List.getElem_cons_succ, List.setIfInBounds_toArray, List.set_cons_zero, List.set_cons_succ])); (refine anyT_take (i := 11) (v := ?_) rfl (by kernel_rfl) (by kernel_rfl) (by kernel_rfl) (fun _ _ _ h => h) (Or.inl ⟨by rfl, ?_⟩) ⟨t0, t1, t2, k0⟩ inv (fun inv => ?_); rotate_left; (· (intro w hSw; (try dsimp only at hSw); go_simp; with_reducible rfl)); (try simp only [Act.put, List.getElem_toArray, List.getElem_cons_zero, List.getElem_cons_succ, List.setIfInBounds_toArray, List.set_cons_zero, List.set_cons_succ])))
        by_cases e2 : 0 < modeM ht hs' (l1.take k)
        · (refine anyT_step (i := 12) rfl (by kernel_rfl) (by decide) inv (fun K hK => ?_); go_simp; go_at_call 85; refine (modeOf_at _ (l1.take k) k p1 ht hs' _ KL.out HL1.out (by omega)).mono ?_; rintro e w' ⟨rfl, rfl⟩; (refine hK _ _ ⟨t0, t1, t2, k0⟩ (fun inv => ?_); clear hK K; (try simp only [Act.put, List.getElem_toArray, List.getElem_cons_zero, List.getElem_cons_succ, List.setIfInBounds_toArray, List.set_cons_zero, List.set_cons_succ])))
          ((refine anyT_take (i := 13) (v := ?_) rfl (by kernel_rfl) (by kernel_rfl) (by kernel_rfl) (fun _ _ _ h => h) (Or.inl ⟨by rfl, ?_⟩) ⟨t0, t1, t2, k0⟩ inv (fun inv => ?_); rotate_left; (· (intro w hSw; (try dsimp only at hSw); go_simp; with_reducible rfl)); (try simp only [Act.put, List.getElem_toArray, List.getElem_cons_zero, List.getElem_cons_succ, List.setIfInBounds_toArray, List.set_cons_zero, List.set_cons_succ])); (refine anyT_take (i := 14) (v := ?_) rfl (by kernel_rfl) (by kernel_rfl) (by kernel_rfl) (fun _ _ _ h => h) (Or.inl ⟨by rfl, ?_⟩) ⟨t0, t1, t2, k0⟩ inv (fun inv => ?_); rotate_left; (· (intro w hSw; (try dsimp only at hSw); go_simp; with_reducible rfl)); (try simp only [Act.put, List.getElem_toArray, List.getElem_cons_zero, List.getElem_cons_succ, List.setIfInBounds_toArray, List.set_cons_zero, List.set_cons_succ])); (refine anyT_take (i := 15) (v := ?_) rfl (by kernel_rfl) (by kernel_rfl) (by kernel_rfl) (fun _ _ _ h => h) (Or.inl ⟨by rfl, ?_⟩) ⟨t0, t1, t2, k0⟩ inv (fun inv => ?_); rotate_left; (· (intro w hSw; (try dsimp only at hSw); go_simp; with_reducible rfl)); (try simp only [Act.put, List.getElem_toArray, List.getElem_cons_zero, List.getElem_cons_succ, List.setIfInBounds_toArray, List.set_cons_zero, List.set_cons_succ])))
          ((refine anyT_take (i := 16) (v := _) rfl (by kernel_rfl) (by kernel_rfl) (by kernel_rfl) (fun _ _ _ h => h) (Or.inr ⟨by rfl, rfl⟩) ⟨t0, t1, t2, k0⟩ inv (fun inv => ?_); (try simp only [Act.put, List.getElem_toArray, List.getElem_cons_zero, List.getElem_cons_succ, List.setIfInBounds_toArray, List.set_cons_zero, List.set_cons_succ])); (refine anyT_take (i := 17) (v := _) rfl (by kernel_rfl) (by kernel_rfl) (by kernel_rfl) (fun _ _ _ h => h) (Or.inr ⟨by rfl, rfl⟩) ⟨t0, t1, t2, k0⟩ inv (fun inv => ?_); (try simp only [Act.put, List.getElem_toArray, List.getElem_cons_zero, List.getElem_cons_succ, List.setIfInBounds_toArray, List.set_cons_zero, List.set_cons_succ])); (refine anyT_take (i := 18) (v := _) rfl (by kernel_rfl) (by kernel_rfl) (by kernel_rfl) (fun _ _ _ h => h) (Or.inr ⟨by rfl, rfl⟩) ⟨t0, t1, t2, k0⟩ inv (fun inv => ?_); (try simp only [Act.put, List.getElem_toArray, List.getElem_cons_zero, List.getElem_cons_succ, List.setIfInBounds_toArray, List.set_cons_zero, List.set_cons_succ])); (refine anyT_take (i := 19) (v := _) rfl (by kernel_rfl) (by kernel_rfl) (by kernel_rfl) (fun _ _ _ h => h) (Or.inr ⟨by rfl, rfl⟩) ⟨t0, t1, t2, k0⟩ inv (fun inv => ?_); (try simp only [Act.put, List.getElem_toArray, List.getElem_cons_zero, List.getElem_cons_succ, List.setIfInBounds_toArray, List.set_cons_zero, List.set_cons_succ])); (refine anyT_take (i := 20) (v := _) rfl (by kernel_rfl) (by kernel_rfl) (by kernel_rfl) (fun _ _ _ h => h) (Or.inr ⟨by rfl, rfl⟩) ⟨t0, t1, t2, k0⟩ inv (fun inv => ?_); (try simp only [Act.put, List.getElem_toArray, List.getElem_cons_zero, List.getElem_cons_succ, List.setIfInBounds_toArray, List.set_cons_zero, List.set_cons_succ])); (refine anyT_take (i := 21) (v := _) rfl (by kernel_rfl) (by kernel_rfl) (by kernel_rfl) (fun _ _ _ h => h) (Or.inr ⟨by rfl, rfl⟩) ⟨t0, t1, t2, k0⟩ inv (fun inv => ?_); (try simp only [Act.put, List.getElem_toArray, List.getElem_cons_zero, List.getElem_cons_succ, List.setIfInBounds_toArray, List.set_cons_zero, List.set_cons_succ])))
          (refine anyT_end (by kernel_rfl) ?_; simp only [List.drop_succ_cons, List.drop_zero])
          go_wp2
          go_ret
          go_light
          exact ⟨by rw [chk_ref_held HX.out (fun h => by have : modeM ht hs' (l1.take k) ≤ 0 := h.2.1; omega)]; rfl, by have bW := bW'.out; (repeat' (first | (with_reducible exact Below.refl _ _) | (with_reducible assumption) | (with_reducible refine Below.alloc ?_ ?_ _) | (with_reducible refine Below.drew ?_) | (with_reducible refine below_drewN ?_) | (with_reducible refine Below.setCell ?_ ?_ _) | (with_reducible refine below_step ?_ ?_ (by with_reducible assumption)) | go_size))⟩
        · have e2' : modeM ht hs' (l1.take k) ≤ 0 := by omega
          have e2d : decide ((0 : Int) < modeM ht hs' (l1.take k)) = false := by simpa using e2'
          have E2 := Lib.hid e2'
          clear e2 e2'
          (refine anyT_step (i := 12) rfl (by kernel_rfl) (by decide) inv (fun K hK => ?_); go_simp; go_at_call 85; refine (modeOf_at _ (l1.take k) k p1 ht hs' _ KL.out HL1.out (by omega)).mono ?_; rintro e w' ⟨rfl, rfl⟩; (refine hK _ _ ⟨t0, t1, t2, k0⟩ (fun inv => ?_); clear hK K; (try simp only [Act.put, List.getElem_toArray, List.getElem_cons_zero, List.getElem_cons_succ, List.setIfInBounds_toArray, List.set_cons_zero, List.set_cons_succ])))
          ((refine anyT_take (i := 13) (v := ?_) rfl (by kernel_rfl) (by kernel_rfl) (by kernel_rfl) (fun _ _ _ h => h) (Or.inl ⟨by rfl, ?_⟩) ⟨t0, t1, t2, k0⟩ inv (fun inv => ?_); rotate_left; (· (intro w hSw; (try dsimp only at hSw); go_simp; with_reducible rfl)); (try simp only [Act.put, List.getElem_toArray, List.getElem_cons_zero, List.getElem_cons_succ, List.setIfInBounds_toArray, List.set_cons_zero, List.set_cons_succ])); (refine anyT_take (i := 14) (v := ?_) rfl (by kernel_rfl) (by kernel_rfl) (by kernel_rfl) (fun _ _ _ h => h) (Or.inl ⟨by rfl, ?_⟩) ⟨t0, t1, t2, k0⟩ inv (fun inv => ?_); rotate_left; (· (intro w hSw; (try dsimp only at hSw); go_simp; with_reducible rfl)); (try simp only [Act.put, List.getElem_toArray, List.getElem_cons_zero, List.getElem_cons_succ, List.setIfInBounds_toArray, List.set_cons_zero, List.set_cons_succ])); (refine anyT_take (i := 15) (v := ?_) rfl (by kernel_rfl) (by kernel_rfl) (by kernel_rfl) (fun _ _ _ h => h) (Or.inl ⟨by rfl, ?_⟩) ⟨t0, t1, t2, k0⟩ inv (fun inv => ?_); rotate_left; (· (intro w hSw; (try dsimp only at hSw); go_simp; with_reducible rfl)); (try simp only [Act.put, List.getElem_toArray, List.getElem_cons_zero, List.getElem_cons_succ, List.setIfInBounds_toArray, List.set_cons_zero, List.set_cons_succ])); (refine anyT_take (i := 16) (v := ?_) rfl (by kernel_rfl) (by kernel_rfl) (by kernel_rfl) (fun _ _ _ h => h) (Or.inl ⟨by rfl, ?_⟩) ⟨t0, t1, t2, k0⟩ inv (fun inv => ?_); rotate_left; (· (intro w hSw; (try dsimp only at hSw); go_simp; with_reducible rfl)); (try simp only [Act.put, List.getElem_toArray, List.getElem_cons_zero, List.getElem_cons_succ, List.setIfInBounds_toArray, List.set_cons_zero, List.set_cons_succ])); (refine anyT_take (i := 17) (v := ?_) rfl (by kernel_rfl) (by kernel_rfl) (by kernel_rfl) (fun _ _ _ h => h) (Or.inl ⟨by rfl, ?_⟩) ⟨t0, t1, t2, k0⟩ inv (fun inv => ?_); rotate_left; (· (intro w hSw; (try dsimp only at hSw); go_simp; with_reducible rfl)); (try simp only [Act.put, List.getElem_toArray, List.getElem_cons_zero, List.getElem_cons_succ, List.setIfInBounds_toArray, List.set_cons_zero, List.set_cons_succ])); (refine anyT_take (i := 18) (v := ?_) rfl (by kernel_rfl) (by kernel_rfl) (by kernel_rfl) (fun _ _ _ h => h) (Or.inl ⟨by rfl, ?_⟩) ⟨t0, t1, t2, k0⟩ inv (fun inv => ?_); rotate_left; (· (intro w hSw; (try dsimp only at hSw); go_simp; with_reducible rfl)); (try simp only [Act.put, List.getElem_toArray, List.getElem_cons_zero, List.getElem_cons_succ, List.setIfInBounds_toArray, List.set_cons_zero, List.set_cons_succ])))
          have HL2 := Lib.hid (H1.out.below (show Below w.heap.size w w1 by have bW := bW'.out; (repeat' (first | (with_reducible exact Below.refl _ _) | (with_reducible assumption) | (with_reducible refine Below.alloc ?_ ?_ _) | (with_reducible refine Below.drew ?_) | (with_reducible refine below_drewN ?_) | (with_reducible refine Below.setCell ?_ ?_ _) | (with_reducible refine below_step ?_ ?_ (by with_reducible assumption)) | go_size))) (Nat.le_refl _))
          have al := agM_len ⟨ht, hs', hm⟩ l1
          by_cases e3 : agM ⟨ht, hs', hm⟩ l1 = []
          · (refine anyT_step (i := 19) rfl (by kernel_rfl) (by decide) inv (fun K hK => ?_); go_simp; go_at_call 86; refine (against_any _ l1 _ ⟨ht, hs', hm⟩ _ HL2.out (by omega)).mono ?_; rintro e w2 ⟨⟨v1, rfl, own1⟩, hbw2⟩; have hz := hbw2.size; (try simp only [World.size_alloc, World.size_setCell, World.size_drew, size_drewN] at hz); (refine hK _ _ ⟨cell_later hbw2 t0, cell_later hbw2 t1, cell_later hbw2 t2, cell_later hbw2 k0⟩ (fun inv => ?_); clear hK K; (try simp only [Act.put, List.getElem_toArray, List.getElem_cons_zero, List.getElem_cons_succ, List.setIfInBounds_toArray, List.set_cons_zero, List.set_cons_succ])))
            have t0 := cell_later hbw2 t0
            have t1 := cell_later hbw2 t1
            have t2 := cell_later hbw2 t2
            have k0 := cell_later hbw2 k0
            rw [e3] at own1
            simp only [List.length_nil] at own1
            rcases Joins.ownsRow_forms own1 with ⟨rfl, hv⟩ | ⟨g2, cap2, rfl⟩
            all_goals
              clear own1
              ((refine anyT_take (i := 20) (v := ?_) rfl (by kernel_rfl) (by kernel_rfl) (by kernel_rfl) (fun _ _ _ h => h) (Or.inl ⟨by rfl, ?_⟩) ⟨t0, t1, t2, k0⟩ inv (fun inv => ?_); rotate_left; (· (intro w hSw; (try dsimp only at hSw); go_simp; with_reducible rfl)); (try simp only [Act.put, List.getElem_toArray, List.getElem_cons_zero, List.getElem_cons_succ, List.setIfInBounds_toArray, List.set_cons_zero, List.set_cons_succ])); (refine anyT_take (i := 21) (v := ?_) rfl (by kernel_rfl) (by kernel_rfl) (by kernel_rfl) (fun _ _ _ h => h) (Or.inl ⟨by rfl, ?_⟩) ⟨t0, t1, t2, k0⟩ inv (fun inv => ?_); rotate_left; (· (intro w hSw; (try dsimp only at hSw); go_simp; with_reducible rfl)); (try simp only [Act.put, List.getElem_toArray, List.getElem_cons_zero, List.getElem_cons_succ, List.setIfInBounds_toArray, List.set_cons_zero, List.set_cons_succ])))
              (refine anyT_end (by kernel_rfl) ?_; simp only [List.drop_succ_cons, List.drop_zero])
              go_wp2
              go_roundw
              case rel =>
                have bW := bW'.out
                refine ⟨k + 1, by omega, by go_num, Lib.hid ⟨?_, by (repeat' (first | (with_reducible exact Below.refl _ _) | (with_reducible assumption) | (with_reducible refine Below.alloc ?_ ?_ _) | (with_reducible refine Below.drew ?_) | (with_reducible refine below_drewN ?_) | (with_reducible refine Below.setCell ?_ ?_ _) | (with_reducible refine below_step ?_ ?_ (by with_reducible assumption)) | go_size)), ?_, ?_⟩⟩
                · refine (hbw2.block _ (by first | omega | (simp; omega))).trans ((hbw1.block _ (by first | omega | (simp; omega))).trans ?_)
                  exact WB.out.trans B0.out
                · have := hbw2.size
                  have := hbw1.size
                  simp at *
                  omega
                · intro j x hj hx
                  rcases Nat.lt_or_eq_of_le (Nat.le_of_lt_succ hj) with hj' | rfl
                  · exact HI.out.2.2.2 j x hj' hx
                  · obtain rfl := Option.some.inj (hx.symm.trans HX.out)
                    exact ⟨e1, E2.out, e3⟩
              case measure => simp [intOf]; omega
          · obtain ⟨m, hm'⟩ : ∃ m, (agM ⟨ht, hs', hm⟩ l1).length = m + 1 := ⟨(agM ⟨ht, hs', hm⟩ l1).length - 1, by have := List.length_pos_iff.2 e3; omega⟩
            have E3 := Lib.hid e3
            have mp : (0 : Int) < (m : Int) + 1 := by omega
            (refine anyT_step (i := 19) rfl (by kernel_rfl) (by decide) inv (fun K hK => ?_); go_simp; go_at_call 86; refine (against_any _ l1 _ ⟨ht, hs', hm⟩ _ HL2.out (by omega)).mono ?_; rintro e w2 ⟨⟨v1, rfl, own1⟩, hbw2⟩; have hz := hbw2.size; (try simp only [World.size_alloc, World.size_setCell, World.size_drew, size_drewN] at hz); (refine hK _ _ ⟨cell_later hbw2 t0, cell_later hbw2 t1, cell_later hbw2 t2, cell_later hbw2 k0⟩ (fun inv => ?_); clear hK K; (try simp only [Act.put, List.getElem_toArray, List.getElem_cons_zero, List.getElem_cons_succ, List.setIfInBounds_toArray, List.set_cons_zero, List.set_cons_succ])))
            have t0 := cell_later hbw2 t0
            have t1 := cell_later hbw2 t1
            have t2 := cell_later hbw2 t2
            have k0 := cell_later hbw2 k0
            rw [hm'] at own1
            rcases Joins.ownsRow_forms own1 with ⟨-, hv⟩ | ⟨g2, cap2, rfl⟩
            · omega
            clear own1 hm' al e3
            ((refine anyT_take (i := 20) (v := ?_) rfl (by kernel_rfl) (by kernel_rfl) (by kernel_rfl) (fun _ _ _ h => h) (Or.inl ⟨by rfl, ?_⟩) ⟨t0, t1, t2, k0⟩ inv (fun inv => ?_); rotate_left; (· (intro w hSw; (try dsimp only at hSw); go_simp; with_reducible rfl)); (try simp only [Act.put, List.getElem_toArray, List.getElem_cons_zero, List.getElem_cons_succ, List.setIfInBounds_toArray, List.set_cons_zero, List.set_cons_succ])); (refine anyT_take (i := 21) (v := ?_) rfl (by kernel_rfl) (by kernel_rfl) (by kernel_rfl) (fun _ _ _ h => h) (Or.inl ⟨by rfl, ?_⟩) ⟨t0, t1, t2, k0⟩ inv (fun inv => ?_); rotate_left; (· (intro w hSw; (try dsimp only at hSw); go_simp; with_reducible rfl)); (try simp only [Act.put, List.getElem_toArray, List.getElem_cons_zero, List.getElem_cons_succ, List.setIfInBounds_toArray, List.set_cons_zero, List.set_cons_succ])))
            (refine anyT_end (by kernel_rfl) ?_; simp only [List.drop_succ_cons, List.drop_zero])
            go_wp2
            go_ret
            go_light
            exact ⟨by rw [chk_ref_held HX.out (fun h => E3.out h.2.2)]; rfl, by have bW := bW'.out; (repeat' (first | (with_reducible exact Below.refl _ _) | (with_reducible assumption) | (with_reducible refine Below.alloc ?_ ?_ _) | (with_reducible refine Below.drew ?_) | (with_reducible refine below_drewN ?_) | (with_reducible refine Below.setCell ?_ ?_ _) | (with_reducible refine below_step ?_ ?_ (by with_reducible assumption)) | go_size))⟩
      · refine wp_cut (fun w' : World => w'.cell? ⟨wr.heap.size, 0, none⟩ = some (.int .i64 ht) ∧ w'.cell? ⟨wr.heap.size, 1, none⟩ = some (.string hs') ∧ w'.cell? ⟨wr.heap.size, 2, none⟩ = some (.int .i64 hm) ∧ w'.cell? ⟨w.heap.size, 0, none⟩ = some (.slice (some ⟨b, o, none⟩) l1.length p1)) 22 (by kernel_rfl) (by kernel_rfl) (fun inv => ?_)
        ((refine anyT_take (i := 0) (v := ?_) rfl (by kernel_rfl) (by kernel_rfl) (by kernel_rfl) (fun _ _ _ h => h) (Or.inl ⟨by rfl, ?_⟩) ⟨t0, t1, t2, k0⟩ inv (fun inv => ?_); rotate_left; (· (intro w hSw; (try dsimp only at hSw); go_simp; with_reducible rfl)); (try simp only [Act.put, List.getElem_toArray, List.getElem_cons_zero, List.getElem_cons_succ, List.setIfInBounds_toArray, List.set_cons_zero, List.set_cons_succ])))
        (refine anyT_step (i := 1) rfl (by kernel_rfl) (by decide) inv (fun K hK => ?_); go_simp; go_at_call 84; refine (lockFault_any ⟨ht, hs', hm⟩ _ hsz).mono ?_; rintro e w1 ⟨rfl, hbw1⟩; have hz := hbw1.size; (try simp only [World.size_alloc, World.size_setCell, World.size_drew, size_drewN] at hz); (refine hK _ _ ⟨cell_later hbw1 t0, cell_later hbw1 t1, cell_later hbw1 t2, cell_later hbw1 k0⟩ (fun inv => ?_); clear hK K; (try simp only [Act.put, List.getElem_toArray, List.getElem_cons_zero, List.getElem_cons_succ, List.setIfInBounds_toArray, List.set_cons_zero, List.set_cons_succ])))
        have t0 := cell_later hbw1 t0
        have t1 := cell_later hbw1 t1
        have t2 := cell_later hbw1 t2
        have k0 := cell_later hbw1 k0
        have e1' : (shapeM ⟨ht, hs', hm⟩ != 0) = true := by simpa using e1
        ((refine anyT_take (i := 2) (v := ?_) rfl (by kernel_rfl) (by kernel_rfl) (by kernel_rfl) (fun _ _ _ h => h) (Or.inl ⟨by rfl, ?_⟩) ⟨t0, t1, t2, k0⟩ inv (fun inv => ?_); rotate_left; (· (intro w hSw; (try dsimp only at hSw); go_simp; with_reducible rfl)); (try simp only [Act.put, List.getElem_toArray, List.getElem_cons_zero, List.getElem_cons_succ, List.setIfInBounds_toArray, List.set_cons_zero, List.set_cons_succ])); (refine anyT_take (i := 3) (v := ?_) rfl (by kernel_rfl) (by kernel_rfl) (by kernel_rfl) (fun _ _ _ h => h) (Or.inl ⟨by rfl, ?_⟩) ⟨t0, t1, t2, k0⟩ inv (fun inv => ?_); rotate_left; (· (intro w hSw; (try dsimp only at hSw); go_simp; with_reducible rfl)); (try simp only [Act.put, List.getElem_toArray, List.getElem_cons_zero, List.getElem_cons_succ, List.setIfInBounds_toArray, List.set_cons_zero, List.set_cons_succ])))
        ((refine anyT_take (i := 4) (v := _) rfl (by kernel_rfl) (by kernel_rfl) (by kernel_rfl) (fun _ _ _ h => h) (Or.inr ⟨by rfl, rfl⟩) ⟨t0, t1, t2, k0⟩ inv (fun inv => ?_); (try simp only [Act.put, List.getElem_toArray, List.getElem_cons_zero, List.getElem_cons_succ, List.setIfInBounds_toArray, List.set_cons_zero, List.set_cons_succ])); (refine anyT_take (i := 5) (v := _) rfl (by kernel_rfl) (by kernel_rfl) (by kernel_rfl) (fun _ _ _ h => h) (Or.inr ⟨by rfl, rfl⟩) ⟨t0, t1, t2, k0⟩ inv (fun inv => ?_); (try simp only [Act.put, List.getElem_toArray, List.getElem_cons_zero, List.getElem_cons_succ, List.setIfInBounds_toArray, List.set_cons_zero, List.set_cons_succ])); (refine anyT_take (i := 6) (v := _) rfl (by kernel_rfl) (by kernel_rfl) (by kernel_rfl) (fun _ _ _ h => h) (Or.inr ⟨by rfl, rfl⟩) ⟨t0, t1, t2, k0⟩ inv (fun inv => ?_); (try simp only [Act.put, List.getElem_toArray, List.getElem_cons_zero, List.getElem_cons_succ, List.setIfInBounds_toArray, List.set_cons_zero, List.set_cons_succ])); (refine anyT_take (i := 7) (v := _) rfl (by kernel_rfl) (by kernel_rfl) (by kernel_rfl) (fun _ _ _ h => h) (Or.inr ⟨by rfl, rfl⟩) ⟨t0, t1, t2, k0⟩ inv (fun inv => ?_); (try simp only [Act.put, List.getElem_toArray, List.getElem_cons_zero, List.getElem_cons_succ, List.setIfInBounds_toArray, List.set_cons_zero, List.set_cons_succ])); (refine anyT_take (i := 8) (v := _) rfl (by kernel_rfl) (by kernel_rfl) (by kernel_rfl) (fun _ _ _ h => h) (Or.inr ⟨by rfl, rfl⟩) ⟨t0, t1, t2, k0⟩ inv (fun inv => ?_); (try simp only [Act.put, List.getElem_toArray, List.getElem_cons_zero, List.getElem_cons_succ, List.setIfInBounds_toArray, List.set_cons_zero, List.set_cons_succ])); (refine anyT_take (i := 9) (v := _) rfl (by kernel_rfl) (by kernel_rfl) (by kernel_rfl) (fun _ _ _ h => h) (Or.inr ⟨by rfl, rfl⟩) ⟨t0, t1, t2, k0⟩ inv (fun inv => ?_); (try simp only [Act.put, List.getElem_toArray, List.getElem_cons_zero, List.getElem_cons_succ, List.setIfInBounds_toArray, List.set_cons_zero, List.set_cons_succ])); (refine anyT_take (i := 10) (v := _) rfl (by kernel_rfl) (by kernel_rfl) (by kernel_rfl) (fun _ _ _ h => h) (Or.inr ⟨by rfl, rfl⟩) ⟨t0, t1, t2, k0⟩ inv (fun inv => ?_); (try simp only [Act.put, List.getElem_toArray, List.getElem_cons_zero, List.getElem_cons_succ, List.setIfInBounds_toArray, List.set_cons_zero, List.set_cons_succ])); (refine anyT_take (i := 11) (v := _) rfl (by kernel_rfl) (by kernel_rfl) (by kernel_rfl) (fun _ _ _ h => h) (Or.inr ⟨by rfl, rfl⟩) ⟨t0, t1, t2, k0⟩ inv (fun inv => ?_); (try simp only [Act.put, List.getElem_toArray, List.getElem_cons_zero, List.getElem_cons_succ, List.setIfInBounds_toArray, List.set_cons_zero, List.set_cons_succ])); (refine anyT_take (i := 12) (v := _) rfl (by kernel_rfl) (by kernel_rfl) (by kernel_rfl) (fun _ _ _ h => h) (Or.inr ⟨by rfl, rfl⟩) ⟨t0, t1, t2, k0⟩ inv (fun inv => ?_); (try simp only [Act.put, List.getElem_toArray, List.getElem_cons_zero, List.getElem_cons_succ, List.setIfInBounds_toArray, List.set_cons_zero, List.set_cons_succ])); (refine anyT_take (i := 13) (v := _) rfl (by kernel_rfl) (by kernel_rfl) (by kernel_rfl) (fun _ _ _ h => h) (Or.inr ⟨by rfl, rfl⟩) ⟨t0, t1, t2, k0⟩ inv (fun inv => ?_); (try simp only [Act.put, List.getElem_toArray, List.getElem_cons_zero, List.getElem_cons_succ, List.setIfInBounds_toArray, List.set_cons_zero, List.set_cons_succ])))
        ((refine anyT_take (i := 14) (v := ?_) rfl (by kernel_rfl) (by kernel_rfl) (by kernel_rfl) (fun _ _ _ h => h) (Or.inl ⟨by rfl, ?_⟩) ⟨t0, t1, t2, k0⟩ inv (fun inv => ?_); rotate_left; (· (intro w hSw; (try dsimp only at hSw); go_simp; with_reducible rfl)); (try simp only [Act.put, List.getElem_toArray, List.getElem_cons_zero, List.getElem_cons_succ, List.setIfInBounds_toArray, List.set_cons_zero, List.set_cons_succ])); (refine anyT_take (i := 15) (v := ?_) rfl (by kernel_rfl) (by kernel_rfl) (by kernel_rfl) (fun _ _ _ h => h) (Or.inl ⟨by rfl, ?_⟩) ⟨t0, t1, t2, k0⟩ inv (fun inv => ?_); rotate_left; (· (intro w hSw; (try dsimp only at hSw); go_simp; with_reducible rfl)); (try simp only [Act.put, List.getElem_toArray, List.getElem_cons_zero, List.getElem_cons_succ, List.setIfInBounds_toArray, List.set_cons_zero, List.set_cons_succ])))
        ((refine anyT_take (i := 16) (v := _) rfl (by kernel_rfl) (by kernel_rfl) (by kernel_rfl) (fun _ _ _ h => h) (Or.inr ⟨by rfl, rfl⟩) ⟨t0, t1, t2, k0⟩ inv (fun inv => ?_); (try simp only [Act.put, List.getElem_toArray, List.getElem_cons_zero, List.getElem_cons_succ, List.setIfInBounds_toArray, List.set_cons_zero, List.set_cons_succ])); (refine anyT_take (i := 17) (v := _) rfl (by kernel_rfl) (by kernel_rfl) (by kernel_rfl) (fun _ _ _ h => h) (Or.inr ⟨by rfl, rfl⟩) ⟨t0, t1, t2, k0⟩ inv (fun inv => ?_); (try simp only [Act.put, List.getElem_toArray, List.getElem_cons_zero, List.getElem_cons_succ, List.setIfInBounds_toArray, List.set_cons_zero, List.set_cons_succ])); (refine anyT_take (i := 18) (v := _) rfl (by kernel_rfl) (by kernel_rfl) (by kernel_rfl) (fun _ _ _ h => h) (Or.inr ⟨by rfl, rfl⟩) ⟨t0, t1, t2, k0⟩ inv (fun inv => ?_); (try simp only [Act.put, List.getElem_toArray, List.getElem_cons_zero, List.getElem_cons_succ, List.setIfInBounds_toArray, List.set_cons_zero, List.set_cons_succ])); (refine anyT_take (i := 19) (v := _) rfl (by kernel_rfl) (by kernel_rfl) (by kernel_rfl) (fun _ _ _ h => h) (Or.inr ⟨by rfl, rfl⟩) ⟨t0, t1, t2, k0⟩ inv (fun inv => ?_); (try simp only [Act.put, List.getElem_toArray, List.getElem_cons_zero, List.getElem_cons_succ, List.setIfInBounds_toArray, List.set_cons_zero, List.set_cons_succ])); (refine anyT_take (i := 20) (v := _) rfl (by kernel_rfl) (by kernel_rfl) (by kernel_rfl) (fun _ _ _ h => h) (Or.inr ⟨by rfl, rfl⟩) ⟨t0, t1, t2, k0⟩ inv (fun inv => ?_); (try simp only [Act.put, List.getElem_toArray, List.getElem_cons_zero, List.getElem_cons_succ, List.setIfInBounds_toArray, List.set_cons_zero, List.set_cons_succ])); (refine anyT_take (i := 21) (v := _) rfl (by kernel_rfl) (by kernel_rfl) (by kernel_rfl) (fun _ _ _ h => h) (Or.inr ⟨by rfl, rfl⟩) ⟨t0, t1, t2, k0⟩ inv (fun inv => ?_); (try simp only [Act.put, List.getElem_toArray, List.getElem_cons_zero, List.getElem_cons_succ, List.setIfInBounds_toArray, List.set_cons_zero, List.set_cons_succ])))
        (refine anyT_end (by kernel_rfl) ?_; simp only [List.drop_succ_cons, List.drop_zero])
        go_wp2
        go_ret
        go_light
        exact ⟨by rw [chk_ref_held HX.out (fun h => e1 h.1)]; rfl, by have bW := bW'.out; (repeat' (first | (with_reducible exact Below.refl _ _) | (with_reducible assumption) | (with_reducible refine Below.alloc ?_ ?_ _) | (with_reducible refine Below.drew ?_) | (with_reducible refine below_drewN ?_) | (with_reducible refine Below.setCell ?_ ?_ _) | (with_reducible refine below_step ?_ ?_ (by with_reducible assumption)) | go_size))⟩
    · obtain rfl : k = l1.length := by omega
      obtain ⟨b0, bel, sz, hheld⟩ := HI.out
      have k0 := Joins.cell_of_block b0 0
      have k1 := Joins.cell_of_block b0 1
      simp at k0 k1
      have HH := Lib.hid hheld
      have B0 := Lib.hid b0
      have BE := Lib.hid bel
      clear HI hheld b0 bel
      rename World => wo
      go_wp2
      go_loopw [5] (fun i wr => ∃ k : Nat, k ≤ l2.length ∧ i = .int .i64 k ∧ Hid (wr.heap[w.heap.size]? = some (.cells #[.slice a1 l1.length p1, .slice a2 l2.length p2] 41 (0, 0)) ∧ Below w.heap.size w wr ∧ w.heap.size + 1 ≤ wr.heap.size ∧ ∀ j x, j < k → l2[j]? = some x → queueRef l1 l2 j x)) (fun i _ => l2.length - (intOf i).toNat)
      case atStart => exact ⟨0, by omega, rfl, Lib.hid ⟨B0.out, BE.out, sz, fun j _ hj => absurd hj (Nat.not_lt_zero _)⟩⟩
      case round =>
        obtain ⟨k, hk, rfl, HI⟩ := hrel
        by_cases hlt : k < l2.length
        · obtain ⟨b0, bel, sz2, -⟩ := HI.out
          obtain ⟨h, hx⟩ : ∃ h, l2[k]? = some h := ⟨l2[k], by simp [hlt]⟩
          obtain ⟨b, o, rfl, hb, c0, c1', c2'⟩ := H2.out.at hx
          obtain ⟨ht, hs', hm⟩ := h
          simp only at c0 c1' c2'
          have k0 := Joins.cell_of_block b0 0
          have k1 := Joins.cell_of_block b0 1
          simp at k0 k1
          have c0 := (bel.cell (p := ⟨b, o + k * 3, none⟩) hb).trans c0
          have c1 := (bel.cell (p := ⟨b, o + k * 3 + 1, none⟩) hb).trans c1'
          have c2 := (bel.cell (p := ⟨b, o + k * 3 + 2, none⟩) hb).trans c2'
          have i1 : (0 : Int) ≤ (k : Int) := by omega
          have i2 : (k : Int) < (l2.length : Int) := by omega
          have B0 := Lib.hid b0
          have BE := Lib.hid bel
          have hsz : hs'.size ≤ maxLen := M2.out _ (List.mem_of_getElem? hx)
          have HX := Lib.hid hx
          clear b0 bel hx
          by_cases e1 : shapeM ⟨ht, hs', hm⟩ = 0
          · have e1' : (shapeM ⟨ht, hs', hm⟩ != 0) = false := by simpa using e1
            go_wp2_with (go_at_call 84; refine (lockFault_any ⟨ht, hs', hm⟩ _ hsz).mono ?_; rintro e w1 ⟨rfl, hbw1⟩; have hz := hbw1.size; (try simp only [World.size_alloc, World.size_setCell, World.size_drew, size_drewN] at hz))
            have bW := BE.out
            have bw1 : Below w.heap.size w w1 := by (repeat' (first | (with_reducible exact Below.refl _ _) | (with_reducible assumption) | (with_reducible refine Below.alloc ?_ ?_ _) | (with_reducible refine Below.drew ?_) | (with_reducible refine below_drewN ?_) | (with_reducible refine Below.setCell ?_ ?_ _) | (with_reducible refine below_step ?_ ?_ (by with_reducible assumption)) | go_size))
            have t0 : w1.cell? ⟨wr.heap.size, 0, none⟩ = some (.int .i64 ht) := cell_later hbw1 (by simp)
            have t1 : w1.cell? ⟨wr.heap.size, 1, none⟩ = some (.string hs') := cell_later hbw1 (by simp)
            have t2 : w1.cell? ⟨wr.heap.size, 2, none⟩ = some (.int .i64 hm) := cell_later hbw1 (by simp)
            have k0 := cell_later hbw1 (cell_later (Joins.below_alloc1 wr (.cells #[.int .i64 ht, .string hs', .int .i64 hm] 82)) k0)
            have k1 := cell_later hbw1 (cell_later (Joins.below_alloc1 wr (.cells #[.int .i64 ht, .string hs', .int .i64 hm] 82)) k1)
            have B1 : Hid (w1.heap[w.heap.size]? = some (.cells #[.slice a1 l1.length p1, .slice (some ⟨b, o, none⟩) l2.length p2] 41 (0, 0))) :=
              Lib.hid ((hbw1.block _ (by simp; omega)).trans ((Below.heap_alloc _ _ _ (by omega)).trans B0.out))
            have X1 := Lib.hid bw1
            have Z1 : w.heap.size + 1 ≤ w1.heap.size := by have := hbw1.size; simp at this; omega
            have hwr := hbw1.size
            have Z2 : wr.heap.size < w1.heap.size := by simp at hwr; omega
            clear hwr bW bw1 hbw1 c0 c1 c2 c1' c2' hz
            obtain ⟨Q, hQ⟩ : ∃ Q, wr.heap.size = Q := ⟨_, rfl⟩
            have HQ' := Lib.hid hQ
            rw [hQ] at t0 t1 t2 Z2 ⊢
            clear hQ
            go_loopw [7] (fun i wr => ∃ (j n : Nat), j ≤ k ∧ i = .int .i64 j ∧ wr = w1.drewN n ∧ Hid ((l2.take j).any (sameX ⟨ht, hs', hm⟩) = false)) (fun i _ => k - (intOf i).toNat)
            case atStart => exact ⟨0, 0, by omega, rfl, (World.drewN_zero w1).symm, Lib.hid (by simp)⟩
            case round =>
              obtain ⟨j, n, hj, rfl, rfl, HJ⟩ := hrel
              by_cases hjk : j < k
              · obtain ⟨y, hy⟩ : ∃ y, l2[j]? = some y := ⟨l2[j], by simp [show j < l2.length by omega]⟩
                obtain ⟨b', o', hbo, hb', d0, -, -⟩ := H2.out.at hy
                simp only [Option.some.injEq, Addr.mk.injEq, and_true] at hbo
                obtain ⟨rfl, rfl⟩ := hbo
                have d0 := (X1.out.cell (p := ⟨b, o + j * 3, none⟩) hb').trans d0
                have i3 : (0 : Int) ≤ (j : Int) := by omega
                have i4 : (j : Int) < (l2.length : Int) := by omega
                have HY := Lib.hid hy
                clear hy hb'
                obtain ⟨yt, ys, ym⟩ := y
                simp only at d0
                cases e2 : (yt == ht)
                · go_wp2
                  go_quiet (fail)
                  go_wp2
                  go_roundw
                  case rel => exact ⟨j + 1, _, by omega, by go_num, rfl, Lib.hid (by rw [any_take_succ HY.out, HJ.out]; simpa [sameX] using e2)⟩
                  case measure => simp [intOf]; omega
                · go_wp2
                  go_quiet (fail)
                  go_wp2
                  go_ret
                  go_light
                  exact ⟨by rw [chk_ref_queue HX.out (fun h => by have h2 := h.2.1; rw [any_take_of HY.out hjk (by simpa [sameX] using e2)] at h2; cases h2)]; rfl, below_drewN (below_drewN X1.out)⟩
              · obtain rfl : j = k := by omega
                generalize hq0 : w1.drewN n = w2
                have h2 : w2.heap = w1.heap := by rw [← hq0]; rfl
                have X2 : Hid (Below w.heap.size w w2) := by rw [← hq0]; exact below_drewN X1.out
                have t0 : w2.cell? ⟨Q, 0, none⟩ = some (.int .i64 ht) := (World.cell?_of_block (by rw [h2])).trans t0
                have t1 : w2.cell? ⟨Q, 1, none⟩ = some (.string hs') := (World.cell?_of_block (by rw [h2])).trans t1
                have t2 : w2.cell? ⟨Q, 2, none⟩ = some (.int .i64 hm) := (World.cell?_of_block (by rw [h2])).trans t2
                have k0 : w2.cell? ⟨w.heap.size, 0, none⟩ = some (.slice a1 l1.length p1) := (World.cell?_of_block (by rw [h2])).trans k0
                have k1 : w2.cell? ⟨w.heap.size, 1, none⟩ = some (.slice (some ⟨b, o, none⟩) l2.length p2) := (World.cell?_of_block (by rw [h2])).trans k1
                have B2 : Hid (w2.heap[w.heap.size]? = some (.cells #[.slice a1 l1.length p1, .slice (some ⟨b, o, none⟩) l2.length p2] 41 (0, 0))) := by rw [h2]; exact B1
                have Z3 : w.heap.size + 1 ≤ w2.heap.size := by rw [h2]; exact Z1
                have L1 := Lib.hid (H1.out.below X2.out (Nat.le_refl _))
                clear hq0 h2 X1 B1 Z1 Z2
                by_cases e2 : 0 < modeM ht hs' l1
                · have e2d : decide ((0 : Int) < modeM ht hs' l1) = true := by simpa using e2
                  by_cases e3 : modeM ht hs' l1 = hm
                  · have e3d : (modeM ht hs' l1 == hm) = true := by simpa using e3
                    have HB : 0 < modeM ht hs' l1 ∧ (modeM ht hs' l1 = hm ∨ joinFrom (modeM ht hs' l1) hm 5 1 ≠ hm) := ⟨e2, .inl e3⟩
                    clear e2 e3
                    have HB := Lib.hid HB
                    go_wp2_with (go_at_call 85; refine (modeOf_any _ l1 _ ht hs' _ L1.out (by omega)).mono ?_; rintro e w1 ⟨rfl, rfl⟩)
                    go_quiet (first | (go_at_call 87; exact Calls.quiet_of_same ((joined_any _ _ _).mono fun _ _ h => ⟨h.1, h.2.symm⟩)))
                    go_wp2
                    go_ret
                    go_light
                    exact ⟨by rw [chk_ref_queue HX.out (fun h => h.2.2.1 HB.out)]; rfl, below_drewN X2.out⟩
                  · have e3d : (modeM ht hs' l1 == hm) = false := by simpa using e3
                    by_cases e4 : joinFrom (modeM ht hs' l1) hm 5 1 = hm
                    · have e4d : (joinFrom (modeM ht hs' l1) hm 5 1 != hm) = false := by simpa using e4
                      have HB : Hid (¬(0 < modeM ht hs' l1 ∧ (modeM ht hs' l1 = hm ∨ joinFrom (modeM ht hs' l1) hm 5 1 ≠ hm))) := Lib.hid (fun h => h.2.elim e3 (fun h => h e4))
                      clear e2 e3 e4
                      go_wp2_with (go_at_call 85; refine (modeOf_any _ l1 _ ht hs' _ L1.out (by omega)).mono ?_; rintro e w1 ⟨rfl, rfl⟩)
                      go_quiet (first | (go_at_call 87; exact Calls.quiet_of_same ((joined_any _ _ _).mono fun _ _ h => ⟨h.1, h.2.symm⟩)))
                      generalize hq1 : w2.drewN nq = w3
                      have h3 : w3.heap = w2.heap := by rw [← hq1]; rfl
                      have X3 : Hid (Below w.heap.size w w3) := by rw [← hq1]; exact below_drewN X2.out
                      have k0 : w3.cell? ⟨w.heap.size, 0, none⟩ = some (.slice a1 l1.length p1) := (World.cell?_of_block (by rw [h3])).trans k0
                      have k1 : w3.cell? ⟨w.heap.size, 1, none⟩ = some (.slice (some ⟨b, o, none⟩) l2.length p2) := (World.cell?_of_block (by rw [h3])).trans k1
                      have B3 : Hid (w3.heap[w.heap.size]? = some (.cells #[.slice a1 l1.length p1, .slice (some ⟨b, o, none⟩) l2.length p2] 41 (0, 0))) := by rw [h3]; exact B2
                      have Z4 : w.heap.size + 1 ≤ w3.heap.size := by rw [h3]; exact Z3
                      have L3 := Lib.hid (H1.out.below X3.out (Nat.le_refl _))
                      have L4 := Lib.hid (H2.out.below X3.out (Nat.le_refl _))
                      clear hq1 h3 X2 B2 Z3 L1 t0 t1 t2
                      by_cases e5 : wfM l1 l2 j ⟨ht, hs', hm⟩ = []
                      · go_wp2_with (go_at_call 54; refine (waitsFor_any _ _ l1 l2 _ _ j ⟨ht, hs', hm⟩ _ L3.out L4.out (by omega) (by omega) HX.out).mono ?_; rintro e w4 ⟨⟨v, rfl, own⟩, hb4⟩; rw [e5] at own; simp only [List.length_nil] at own; obtain ⟨a', c', rfl⟩ := slice_form own; clear own)
                        go_ret
                        go_light
                        exact ⟨by rw [chk_ref_queue HX.out (fun h => h.2.2.2 e5)]; rfl, by have := X3.out; (repeat' (first | (with_reducible exact Below.refl _ _) | (with_reducible assumption) | (with_reducible refine Below.alloc ?_ ?_ _) | (with_reducible refine Below.drew ?_) | (with_reducible refine below_drewN ?_) | (with_reducible refine Below.setCell ?_ ?_ _) | (with_reducible refine below_step ?_ ?_ (by with_reducible assumption)) | go_size))⟩
                      · obtain ⟨m, hm'⟩ : ∃ m, (wfM l1 l2 j ⟨ht, hs', hm⟩).length = m + 1 := ⟨(wfM l1 l2 j ⟨ht, hs', hm⟩).length - 1, by have := List.length_pos_iff.2 e5; omega⟩
                        have mz : ((m : Int) + 1 == 0) = false := by simp; omega
                        have HM := Lib.hid hm'
                        clear hm'
                        go_wp2_with (go_at_call 54; refine (waitsFor_any _ _ l1 l2 _ _ j ⟨ht, hs', hm⟩ _ L3.out L4.out (by omega) (by omega) HX.out).mono ?_; rintro e w4 ⟨⟨v, rfl, own⟩, hb4⟩; rw [HM.out] at own; obtain ⟨a', c', rfl⟩ := slice_form own; clear own)
                        go_roundw
                        case rel =>
                          refine ⟨j + 1, by omega, by go_num, Lib.hid ⟨(hb4.block _ (by omega)).trans B3.out, by have := X3.out; (repeat' (first | (with_reducible exact Below.refl _ _) | (with_reducible assumption) | (with_reducible refine Below.alloc ?_ ?_ _) | (with_reducible refine Below.drew ?_) | (with_reducible refine below_drewN ?_) | (with_reducible refine Below.setCell ?_ ?_ _) | (with_reducible refine below_step ?_ ?_ (by with_reducible assumption)) | go_size)), by have := hb4.size; omega, ?_⟩⟩
                          intro i x hi hx
                          rcases Nat.lt_or_eq_of_le (Nat.le_of_lt_succ hi) with hi' | rfl
                          · exact HI.out.2.2.2 i x hi' hx
                          · obtain rfl := Option.some.inj (hx.symm.trans HX.out)
                            exact ⟨e1, HJ.out, HB.out, e5⟩
                        case measure => simp [intOf]; omega
                    · have e4d : (joinFrom (modeM ht hs' l1) hm 5 1 != hm) = true := by simpa using e4
                      have HB : Hid (0 < modeM ht hs' l1 ∧ (modeM ht hs' l1 = hm ∨ joinFrom (modeM ht hs' l1) hm 5 1 ≠ hm)) := Lib.hid ⟨e2, .inr e4⟩
                      clear e2 e3 e4
                      go_wp2_with (go_at_call 85; refine (modeOf_any _ l1 _ ht hs' _ L1.out (by omega)).mono ?_; rintro e w1 ⟨rfl, rfl⟩)
                      go_quiet (first | (go_at_call 87; exact Calls.quiet_of_same ((joined_any _ _ _).mono fun _ _ h => ⟨h.1, h.2.symm⟩)))
                      go_wp2
                      go_ret
                      go_light
                      exact ⟨by rw [chk_ref_queue HX.out (fun h => h.2.2.1 HB.out)]; rfl, below_drewN X2.out⟩
                · have e2d : decide ((0 : Int) < modeM ht hs' l1) = false := by simpa using e2
                  have HB : Hid (¬(0 < modeM ht hs' l1 ∧ (modeM ht hs' l1 = hm ∨ joinFrom (modeM ht hs' l1) hm 5 1 ≠ hm))) := Lib.hid (fun h => e2 h.1)
                  clear e2
                  go_wp2_with (go_at_call 85; refine (modeOf_any _ l1 _ ht hs' _ L1.out (by omega)).mono ?_; rintro e w1 ⟨rfl, rfl⟩)
                  go_quiet (first | (go_at_call 87; exact Calls.quiet_of_same ((joined_any _ _ _).mono fun _ _ h => ⟨h.1, h.2.symm⟩)))
                  generalize hq1 : w2.drewN nq = w3
                  have h3 : w3.heap = w2.heap := by rw [← hq1]; rfl
                  have X3 : Hid (Below w.heap.size w w3) := by rw [← hq1]; exact below_drewN X2.out
                  have k0 : w3.cell? ⟨w.heap.size, 0, none⟩ = some (.slice a1 l1.length p1) := (World.cell?_of_block (by rw [h3])).trans k0
                  have k1 : w3.cell? ⟨w.heap.size, 1, none⟩ = some (.slice (some ⟨b, o, none⟩) l2.length p2) := (World.cell?_of_block (by rw [h3])).trans k1
                  have B3 : Hid (w3.heap[w.heap.size]? = some (.cells #[.slice a1 l1.length p1, .slice (some ⟨b, o, none⟩) l2.length p2] 41 (0, 0))) := by rw [h3]; exact B2
                  have Z4 : w.heap.size + 1 ≤ w3.heap.size := by rw [h3]; exact Z3
                  have L3 := Lib.hid (H1.out.below X3.out (Nat.le_refl _))
                  have L4 := Lib.hid (H2.out.below X3.out (Nat.le_refl _))
                  clear hq1 h3 X2 B2 Z3 L1 t0 t1 t2
                  by_cases e5 : wfM l1 l2 j ⟨ht, hs', hm⟩ = []
                  · go_wp2_with (go_at_call 54; refine (waitsFor_any _ _ l1 l2 _ _ j ⟨ht, hs', hm⟩ _ L3.out L4.out (by omega) (by omega) HX.out).mono ?_; rintro e w4 ⟨⟨v, rfl, own⟩, hb4⟩; rw [e5] at own; simp only [List.length_nil] at own; obtain ⟨a', c', rfl⟩ := slice_form own; clear own)
                    go_ret
                    go_light
                    exact ⟨by rw [chk_ref_queue HX.out (fun h => h.2.2.2 e5)]; rfl, by have := X3.out; (repeat' (first | (with_reducible exact Below.refl _ _) | (with_reducible assumption) | (with_reducible refine Below.alloc ?_ ?_ _) | (with_reducible refine Below.drew ?_) | (with_reducible refine below_drewN ?_) | (with_reducible refine Below.setCell ?_ ?_ _) | (with_reducible refine below_step ?_ ?_ (by with_reducible assumption)) | go_size))⟩
                  · obtain ⟨m, hm'⟩ : ∃ m, (wfM l1 l2 j ⟨ht, hs', hm⟩).length = m + 1 := ⟨(wfM l1 l2 j ⟨ht, hs', hm⟩).length - 1, by have := List.length_pos_iff.2 e5; omega⟩
                    have mz : ((m : Int) + 1 == 0) = false := by simp; omega
                    have HM := Lib.hid hm'
                    clear hm'
                    go_wp2_with (go_at_call 54; refine (waitsFor_any _ _ l1 l2 _ _ j ⟨ht, hs', hm⟩ _ L3.out L4.out (by omega) (by omega) HX.out).mono ?_; rintro e w4 ⟨⟨v, rfl, own⟩, hb4⟩; rw [HM.out] at own; obtain ⟨a', c', rfl⟩ := slice_form own; clear own)
                    go_roundw
                    case rel =>
                      refine ⟨j + 1, by omega, by go_num, Lib.hid ⟨(hb4.block _ (by omega)).trans B3.out, by have := X3.out; (repeat' (first | (with_reducible exact Below.refl _ _) | (with_reducible assumption) | (with_reducible refine Below.alloc ?_ ?_ _) | (with_reducible refine Below.drew ?_) | (with_reducible refine below_drewN ?_) | (with_reducible refine Below.setCell ?_ ?_ _) | (with_reducible refine below_step ?_ ?_ (by with_reducible assumption)) | go_size)), by have := hb4.size; omega, ?_⟩⟩
                      intro i x hi hx
                      rcases Nat.lt_or_eq_of_le (Nat.le_of_lt_succ hi) with hi' | rfl
                      · exact HI.out.2.2.2 i x hi' hx
                      · obtain rfl := Option.some.inj (hx.symm.trans HX.out)
                        exact ⟨e1, HJ.out, HB.out, e5⟩
                    case measure => simp [intOf]; omega
          · have e1' : (shapeM ⟨ht, hs', hm⟩ != 0) = true := by simpa using e1
            go_wp2_with (go_at_call 84; refine (lockFault_any ⟨ht, hs', hm⟩ _ hsz).mono ?_; rintro e w1 ⟨rfl, hbw1⟩; have hz := hbw1.size; (try simp only [World.size_alloc, World.size_setCell, World.size_drew, size_drewN] at hz))
            go_ret
            go_light
            exact ⟨by rw [chk_ref_queue HX.out (fun h => e1 h.1)]; rfl, by have bW := BE.out; (repeat' (first | (with_reducible exact Below.refl _ _) | (with_reducible assumption) | (with_reducible refine Below.alloc ?_ ?_ _) | (with_reducible refine Below.drew ?_) | (with_reducible refine below_drewN ?_) | (with_reducible refine Below.setCell ?_ ?_ _) | (with_reducible refine below_step ?_ ?_ (by with_reducible assumption)) | go_size))⟩
        · obtain rfl : k = l2.length := by omega
          obtain ⟨b0, bel, sz2, hq⟩ := HI.out
          have k0 := Joins.cell_of_block b0 0
          have k1 := Joins.cell_of_block b0 1
          simp at k0 k1
          have HQ := Lib.hid hq
          have BE := Lib.hid bel
          clear HI hq b0 bel
          go_wp2
          go_ret
          go_light
          exact ⟨by rw [chk_ref_yes (by assumption) (fun j x hj => HH.out j x hj) (fun j x hj => HQ.out j x hj)]; rfl, BE.out⟩
end Go.Proofs.YteebiklebedneaaDoor
/- The abstract machine, 1: abstract values, what they stand for in a world, and what stays of that when the world goes on. -/
namespace Go.AM
open Go
/-- Abstract values: r: this very value; ro: a slice that is read (its elements, each as its cells); re: an address into a run of cells that is read; s: a slice of an own list; p: an address into an own thing. -/
inductive AV where
  | r (v : Value)
  | ro (t : Bool) (k : Nat) (els : List (List AV))
  | re (t : Bool) (c : List AV) (off : Nat)
  | s (n lo len : Nat)
  | p (n i off : Nat)
  | agg (c : List AV)
  | tup (c : List AV)
  | fn (f : Nat) (c : List AV)
  | ifc (t : Nat) (v : AV)
instance : Inhabited AV := ⟨.r undef⟩
/-- Where an own thing lies: its block, the offset of its first cell, the cells of an element, how many elements there is room for. -/
structure NLoc where
  b : Nat
  o : Nat
  k : Nat
  cap : Nat
  ph : Bool := false
abbrev Zone := Bool → Nat → Prop
inductive Rep (w : World) (z : Zone) : List NLoc → AV → Value → Prop
  | r (th : List NLoc) (v : Value) : Rep w z th (.r v) v
  | nil (th : List NLoc) (t : Bool) (k : Nat) (a : Option Addr) (c : Nat) : Rep w z th (.ro t k []) (.slice a 0 c)
  | ro (th : List NLoc) (t : Bool) (k : Nat) (els : List (List AV)) (b o c : Nat) (ys : Nat → Nat → Value) (hz : z t b) (hc : els.length ≤ c) (hk : ∀ (i : Nat) (e : List AV), els[i]? = some e → e.length = k)
      (hy : ∀ (i : Nat) (e : List AV) (j : Nat) (x : AV), els[i]? = some e → e[j]? = some x → w.cell? ⟨b, o + i * k + j, none⟩ = some (ys i j))
      (h1 : ∀ (i : Nat) (e : List AV) (j : Nat) (x : AV), els[i]? = some e → e[j]? = some x → (ys i j).oneCell' = true)
      (hx : ∀ (i : Nat) (e : List AV) (j : Nat) (x : AV), els[i]? = some e → e[j]? = some x → Rep w z [] x (ys i j)) : Rep w z th (.ro t k els) (.slice (some ⟨b, o, none⟩) els.length c)
  | re (th : List NLoc) (t : Bool) (c : List AV) (b o off : Nat) (ys : Nat → Value) (hz : z t b) (hy : ∀ (j : Nat) (x : AV), c[j]? = some x → w.cell? ⟨b, o + j, none⟩ = some (ys j))
      (hx : ∀ (j : Nat) (x : AV), c[j]? = some x → Rep w z [] x (ys j)) : Rep w z th (.re t c off) (.pointer (some ⟨b, o + off, none⟩))
  | s (th : List NLoc) (n lo len c x : Nat) (L : NLoc) (hL : th[n]? = some L) (hp : L.ph = false) (hl : len ≤ c) (hc : lo + c ≤ L.cap) (hx : 0 < c → x = L.o + lo * L.k) :
      Rep w z th (.s n lo len) (.slice (some ⟨L.b, x, none⟩) len c)
  | sn (th : List NLoc) (n lo : Nat) (L : NLoc) (hL : th[n]? = some L) (hp : L.ph = true) : Rep w z th (.s n lo 0) (.slice none 0 0)
  | p (th : List NLoc) (n i off : Nat) (L : NLoc) (hL : th[n]? = some L) : Rep w z th (.p n i off) (.pointer (some ⟨L.b, L.o + i * L.k + off, none⟩))
  | agg (th : List NLoc) (c : List AV) (ys : List Value) (hl : ys.length = c.length) (hx : ∀ (i : Nat) (x : AV) (y : Value), c[i]? = some x → ys[i]? = some y → Rep w z th x y) : Rep w z th (.agg c) (.agg ys.toArray)
  | tup (th : List NLoc) (c : List AV) (ys : List Value) (hl : ys.length = c.length) (hx : ∀ (i : Nat) (x : AV) (y : Value), c[i]? = some x → ys[i]? = some y → Rep w z th x y) : Rep w z th (.tup c) (.tuple ys.toArray)
  | fn (th : List NLoc) (f : Nat) (c : List AV) (ys : List Value) (hl : ys.length = c.length) (hx : ∀ (i : Nat) (x : AV) (y : Value), c[i]? = some x → ys[i]? = some y → Rep w z th x y) : Rep w z th (.fn f c) (.func (.func f) #[] ys.toArray)
  | ifc (th : List NLoc) (t : Nat) (x : AV) (v : Value) (hx : Rep w z th x v) : Rep w z th (.ifc t x) (.iface t v)
/-- Lists of values, pairwise. -/
def Reps (w : World) (z : Zone) (th : List NLoc) (c : List AV) (ys : List Value) : Prop := ys.length = c.length ∧ ∀ (i : Nat) (x : AV) (y : Value), c[i]? = some x → ys[i]? = some y → Rep w z th x y
/-- The world goes on: what is in a zone stands. -/
structure Le (w : World) (z : Zone) (w' : World) (z' : Zone) : Prop where
  sub : ∀ t b, z t b → z' t b
  same : ∀ t b, z t b → w'.heap[b]? = w.heap[b]?
theorem cell_heap {w w' : World} {b : Nat} (h : w'.heap[b]? = w.heap[b]?) (o : Nat) : w'.cell? ⟨b, o, none⟩ = w.cell? ⟨b, o, none⟩ := by
  unfold World.cell?; rw [h]
theorem frozen_heap {w w' : World} {b : Nat} (h : w'.heap[b]? = w.heap[b]?) (o : Nat) : w'.frozen? ⟨b, o, none⟩ = w.frozen? ⟨b, o, none⟩ := by
  unfold World.frozen?; rw [h]
theorem Le.refl (w : World) (z : Zone) : Le w z w z := ⟨fun _ _ h => h, fun _ _ _ => rfl⟩
theorem pre_get {α : Type} {th : List α} {n : Nat} {L : α} (more : List α) (h : th[n]? = some L) : (th ++ more)[n]? = some L := by
  rw [List.getElem?_append_left]; · exact h
  · exact (List.getElem?_eq_some_iff.1 h).1
theorem Rep.mono {w w' : World} {z z' : Zone} {th : List NLoc} {x : AV} {v : Value} (h : Rep w z th x v) (l : Le w z w' z') : ∀ more : List NLoc, (th = [] → more = []) ∨ True → Rep w' z' (th ++ more) x v := by
  induction h with
  | r th v => intro more _; exact .r _ v
  | nil th t k a c => intro more _; exact .nil _ t k a c
  | ro th t k els b o c ys hz hc hk hy ho hx ih => intro more _; exact .ro _ t k els b o c ys (l.sub _ _ hz) hc hk (fun i e j x h1 h2 => (cell_heap (l.same _ _ hz) _).trans (hy i e j x h1 h2)) ho (fun i e j x h1 h2 => by simpa using ih i e j x h1 h2 [] (.inr trivial))
  | re th t c b o off ys hz hy hx ih => intro more _; exact .re _ t c b o off ys (l.sub _ _ hz) (fun j x h1 => (cell_heap (l.same _ _ hz) _).trans (hy j x h1)) (fun j x h1 => by simpa using ih j x h1 [] (.inr trivial))
  | s th n lo len c x L hL hp hl hc hx => intro more _; exact .s _ n lo len c x L (pre_get _ hL) hp hl hc hx
  | sn th n lo L hL hp => intro more _; exact .sn _ n lo L (pre_get _ hL) hp
  | p th n i off L hL => intro more _; exact .p _ n i off L (pre_get _ hL)
  | agg th c ys hl hx ih => intro more _; exact .agg _ c ys hl (fun i x y h1 h2 => ih i x y h1 h2 more (.inr trivial))
  | tup th c ys hl hx ih => intro more _; exact .tup _ c ys hl (fun i x y h1 h2 => ih i x y h1 h2 more (.inr trivial))
  | fn th f c ys hl hx ih => intro more _; exact .fn _ f c ys hl (fun i x y h1 h2 => ih i x y h1 h2 more (.inr trivial))
  | ifc th t x v hx ih => intro more _; exact .ifc _ t x v (ih more (.inr trivial))
theorem Rep.on {w w' : World} {z z' : Zone} {th : List NLoc} {x : AV} {v : Value} (h : Rep w z th x v) (l : Le w z w' z') (more : List NLoc := []) : Rep w' z' (th ++ more) x v := h.mono l more (.inr trivial)
theorem Rep.on' {w w' : World} {z z' : Zone} {th : List NLoc} {x : AV} {v : Value} (h : Rep w z th x v) (l : Le w z w' z') : Rep w' z' th x v := by simpa using h.on l []
theorem Rep.pure {w : World} {z : Zone} {x : AV} {v : Value} (th : List NLoc) (h : Rep w z [] x v) : Rep w z th x v := h.on (Le.refl w z) th
theorem Reps.on {w w' : World} {z z' : Zone} {th : List NLoc} {c : List AV} {ys : List Value} (h : Reps w z th c ys) (l : Le w z w' z') (more : List NLoc := []) : Reps w' z' (th ++ more) c ys := ⟨h.1, fun i x y h1 h2 => (h.2 i x y h1 h2).on l more⟩
theorem Reps.nil {w : World} {z : Zone} {th : List NLoc} : Reps w z th [] [] := ⟨rfl, fun i x y h => by simp at h⟩
theorem Reps.cons {w : World} {z : Zone} {th : List NLoc} {x : AV} {y : Value} {c : List AV} {ys : List Value} (h : Rep w z th x y) (r : Reps w z th c ys) : Reps w z th (x :: c) (y :: ys) := by
  refine ⟨by simp [r.1], fun i a b h1 h2 => ?_⟩
  cases i with
  | zero => simp at h1 h2; subst h1 h2; exact h
  | succ i => simp at h1 h2; exact r.2 i a b h1 h2
theorem Reps.head {w : World} {z : Zone} {th : List NLoc} {x : AV} {c : List AV} {ys : List Value} (r : Reps w z th (x :: c) ys) : ∃ y ys', ys = y :: ys' ∧ Rep w z th x y ∧ Reps w z th c ys' := by
  cases ys with
  | nil => simp [Reps] at r
  | cons y ys' => exact ⟨y, ys', rfl, r.2 0 x y rfl rfl, by simpa using r.1, fun i a b h1 h2 => r.2 (i + 1) a b (by simpa using h1) (by simpa using h2)⟩
theorem Reps.of_nil {w : World} {z : Zone} {th : List NLoc} {ys : List Value} (r : Reps w z th [] ys) : ys = [] := by
  have := r.1; simpa using this
theorem Reps.get {w : World} {z : Zone} {th : List NLoc} {c : List AV} {ys : List Value} (r : Reps w z th c ys) {i : Nat} {x : AV} (h : c[i]? = some x) : ∃ y, ys[i]? = some y ∧ Rep w z th x y := by
  have hi : i < ys.length := by rw [r.1]; exact (List.getElem?_eq_some_iff.1 h).1
  exact ⟨ys[i], by simp [hi], r.2 i x _ h (by simp [hi])⟩
theorem Reps.append {w : World} {z : Zone} {th : List NLoc} {c d : List AV} {ys us : List Value} (r : Reps w z th c ys) (r' : Reps w z th d us) : Reps w z th (c ++ d) (ys ++ us) := by
  refine ⟨by simp [r.1, r'.1], fun i x y h1 h2 => ?_⟩
  rw [List.getElem?_append] at h1 h2
  by_cases hi : i < c.length
  · rw [if_pos hi] at h1; rw [if_pos (by rw [r.1]; exact hi)] at h2; exact r.2 i x y h1 h2
  · rw [if_neg hi] at h1; rw [if_neg (by rw [r.1]; exact hi), r.1] at h2; exact r'.2 _ x y h1 h2
theorem Reps.take {w : World} {z : Zone} {th : List NLoc} {c : List AV} {ys : List Value} (r : Reps w z th c ys) (n : Nat) : Reps w z th (c.take n) (ys.take n) := by
  refine ⟨by simp [r.1], fun i x y h1 h2 => ?_⟩
  rw [List.getElem?_take] at h1 h2
  split at h1
  · rename_i hi; rw [if_pos hi] at h2; exact r.2 i x y h1 h2
  · cases h1
theorem Reps.drop {w : World} {z : Zone} {th : List NLoc} {c : List AV} {ys : List Value} (r : Reps w z th c ys) (n : Nat) : Reps w z th (c.drop n) (ys.drop n) := by
  refine ⟨by simp [r.1], fun i x y h1 h2 => ?_⟩
  rw [List.getElem?_drop] at h1 h2
  exact r.2 _ x y h1 h2
/-- Whether an abstract value is one plain cell: no struct, no tuple. -/
def AV.cell1 : AV → Bool
  | .agg _ | .tup _ => false
  | .r (.agg _) | .r (.tuple _) => false
  | _ => true
/-- A look-up by number. -/
def lk {α : Type} : List (Nat × α) → Nat → Option α
  | [], _ => none
  | (i, x) :: r, j => if i = j then some x else lk r j
/-- Own things: a box: cells that may bear addresses of own things; a list: its elements, which do not. -/
inductive Nd where
  | box (T : TypeId) (c : List AV)
  | lst (T : TypeId) (k : Nat) (els : List (List AV))
def okFr (cells : Array Value) (fr : Nat × Nat) : Prop := ∀ i, i < cells.size → ¬ (fr.1 ≤ i ∧ i < fr.2)
def NdAt (w : World) (z : Zone) (th : List NLoc) (L : NLoc) : Nd → Prop
  | .box T c => L.ph = false ∧ ∃ cells fr, w.heap[L.b]? = some (.cells cells T fr) ∧ okFr cells fr ∧ L.o = 0 ∧ Reps w z th c cells.toList
  | .lst T k els => (L.ph = true ∧ els = []) ∨ (L.ph = false ∧ ∃ cells fr, w.heap[L.b]? = some (.cells cells T fr) ∧ okFr cells fr ∧ L.k = k ∧ L.o + L.cap * L.k ≤ cells.size ∧ els.length ≤ L.cap ∧
      ∀ (i : Nat) (e : List AV), els[i]? = some e → e.length = L.k ∧ ∀ (j : Nat) (x : AV), e[j]? = some x → ∃ y, cells[L.o + i * L.k + j]? = some y ∧ Rep w z [] x y ∧ y.oneCell' = true)
theorem NdAt.on {w w' : World} {z z' : Zone} {th : List NLoc} {L : NLoc} {nd : Nd} (h : NdAt w z th L nd) (l : Le w z w' z') (hb : L.ph = false → w'.heap[L.b]? = w.heap[L.b]?) (more : List NLoc := []) : NdAt w' z' (th ++ more) L nd := by
  cases nd with
  | box T c => obtain ⟨hp, cells, fr, h1, h2, h3, h4⟩ := h; exact ⟨hp, cells, fr, (hb hp).trans h1, h2, h3, h4.on l more⟩
  | lst T k els =>
    rcases h with h | ⟨hp, cells, fr, h1, h2, h3, h4, h5, h6⟩
    · exact .inl h
    · exact .inr ⟨hp, cells, fr, (hb hp).trans h1, h2, h3, h4, h5, fun i e he => ⟨(h6 i e he).1, fun j x hx => let ⟨y, hy, hr, h1⟩ := (h6 i e he).2 j x hx; ⟨y, hy, hr.on' l, h1⟩⟩⟩
/-- What was given at the entry: the world, the blocks that are own from the entry on, the zones, the package's tables. -/
structure Env where
  w0 : World
  own : Nat → Prop
  z0 : Zone
  G : List (Nat × List Value)
  th0 : List NLoc
/-- What is no memory: as it was. -/
def Sys (w w' : World) : Prop := w'.os = w.os ∧ w'.tape = w.tape ∧ w'.output = w.output
theorem Sys.refl (w : World) : Sys w w := ⟨rfl, rfl, rfl⟩
theorem Sys.trans {a b c : World} (h : Sys a b) (h' : Sys b c) : Sys a c := ⟨h'.1.trans h.1, h'.2.1.trans h.2.1, h'.2.2.trans h.2.2⟩
/-- Memory. -/
structure Mem (E : Env) (o : List (Nat × Nd)) (n : Nat) (th : List NLoc) (z : Zone) (w : World) : Prop where
  len : th.length = n
  nds : ∀ i nd, lk o i = some nd → ∃ L, th[i]? = some L ∧ NdAt w z th L nd ∧ (L.ph = false → L.b < w.heap.size ∧ (∀ t, ¬ z t L.b) ∧ (E.own L.b ∨ E.w0.heap.size ≤ L.b))
  inj : ∀ i j x y L M, lk o i = some x → lk o j = some y → th[i]? = some L → th[j]? = some M → L.ph = false → M.ph = false → L.b = M.b → i = j
  zlt : ∀ t b, z t b → b < w.heap.size
  grow : E.w0.heap.size ≤ w.heap.size
  frame : ∀ b, b < E.w0.heap.size → ¬ E.own b → w.heap[b]? = E.w0.heap[b]?
  zin : ∀ t b, E.z0 t b → z t b
  zout : ∀ b, z true b → E.z0 true b ∨ E.own b ∨ E.w0.heap.size ≤ b
  zb : ∀ b, z false b → E.z0 false b
  globs : ∀ g cs, (g, cs) ∈ E.G → z true g ∧ ∀ (j : Nat) v, cs[j]? = some v → w.cell? ⟨g, j, none⟩ = some v
  pre : ∀ (i : Nat) L, E.th0[i]? = some L → th[i]? = some L
  sys : Sys E.w0 w
/-- A state: what the slots hold, the own things, the next number. -/
structure AS where
  m : List (Nat × AV)
  o : List (Nat × Nd)
  n : Nat
def AS.put (st : AS) (d : Option Nat) (x : AV) : AS := match d with
  | some d => { st with m := (d, x) :: st.m }
  | none => st
structure Sim (E : Env) (N : Nat) (st : AS) (th : List NLoc) (z : Zone) (a : Act) (w : World) : Prop where
  mem : Mem E st.o st.n th z w
  size : a.tmps.size = N
  dfs : a.defers = []
  slots : ∀ i x, lk st.m i = some x → ∃ y, a.tmps[i]? = some y ∧ Rep w z th x y
/-- The world has grown: nothing of old has turned. -/
structure Ext (w w' : World) : Prop where
  size : w.heap.size ≤ w'.heap.size
  same : ∀ b, b < w.heap.size → w'.heap[b]? = w.heap[b]?
  sys : Sys w w'
theorem Ext.refl (w : World) : Ext w w := ⟨Nat.le_refl _, fun _ _ => rfl, Sys.refl w⟩
theorem Ext.trans {a b c : World} (h : Ext a b) (h' : Ext b c) : Ext a c := ⟨Nat.le_trans h.size h'.size, fun x hx => (h'.same x (Nat.lt_of_lt_of_le hx h.size)).trans (h.same x hx), h.sys.trans h'.sys⟩
theorem Ext.le {w w' : World} {z z' : Zone} (h : Ext w w') (hz : ∀ t b, z t b → z' t b) (hlt : ∀ t b, z t b → b < w.heap.size) : Le w z w' z' := ⟨hz, fun t b hb => h.same b (hlt t b hb)⟩
/-- Nothing has turned but what the own things of these numbers stand in. -/
structure ExtT (th : List NLoc) (ts : List Nat) (w w' : World) : Prop where
  size : w.heap.size ≤ w'.heap.size
  same : ∀ b, b < w.heap.size → (∀ n ∈ ts, ∀ L, th[n]? = some L → L.ph = false → L.b ≠ b) → w'.heap[b]? = w.heap[b]?
  sys : Sys w w'
theorem Ext.t {th : List NLoc} {ts : List Nat} {w w' : World} (h : Ext w w') : ExtT th ts w w' := ⟨h.size, fun b hb _ => h.same b hb, h.sys⟩
theorem ExtT.ext {th : List NLoc} {w w' : World} (h : ExtT th [] w w') : Ext w w' := ⟨h.size, fun b hb => h.same b hb (fun _ hn => by cases hn), h.sys⟩
/-- Own things keep their places. -/
def Later (th th' : List NLoc) : Prop := ∀ (i : Nat) L, th[i]? = some L → th'[i]? = some L
theorem Later.refl (th : List NLoc) : Later th th := fun _ _ h => h
theorem Later.trans {a b c : List NLoc} (h : Later a b) (h' : Later b c) : Later a c := fun i L hi => h' i L (h i L hi)
theorem later_app (th more : List NLoc) : Later th (th ++ more) := fun _ _ h => pre_get _ h
/-- The memory stands in a world that has grown. -/
theorem Mem.ext {E : Env} {o : List (Nat × Nd)} {n : Nat} {th : List NLoc} {z : Zone} {w w' : World} (h : Mem E o n th z w) (e : Ext w w') : Mem E o n th z w' := by
  have l : Le w z w' z := e.le (fun _ _ h => h) h.zlt
  refine ⟨h.len, fun i nd hi => ?_, h.inj, fun t b hb => Nat.lt_of_lt_of_le (h.zlt t b hb) e.size, Nat.le_trans h.grow e.size, fun b hb ho => ?_, h.zin, h.zout, h.zb, fun g cs hg => ?_, h.pre, h.sys.trans e.sys⟩
  · obtain ⟨L, h1, h2, h3⟩ := h.nds i nd hi
    exact ⟨L, h1, by simpa using h2.on l (fun hp => e.same _ (h3 hp).1) [], fun hp => ⟨Nat.lt_of_lt_of_le (h3 hp).1 e.size, (h3 hp).2⟩⟩
  · exact (e.same b (Nat.lt_of_lt_of_le hb h.grow)).trans (h.frame b hb ho)
  · obtain ⟨h1, h2⟩ := h.globs g cs hg
    exact ⟨h1, fun j v hv => (cell_heap (e.same _ (h.zlt _ _ h1)) _).trans (h2 j v hv)⟩
theorem Sim.ext {E : Env} {N : Nat} {st : AS} {th : List NLoc} {z : Zone} {a : Act} {w w' : World} (h : Sim E N st th z a w) (e : Ext w w') : Sim E N st th z a w' :=
  ⟨h.mem.ext e, h.size, h.dfs, fun i x hi => let ⟨y, hy, hr⟩ := h.slots i x hi; ⟨y, hy, hr.on' (e.le (fun _ _ h => h) h.mem.zlt)⟩⟩
theorem Sim.put {E : Env} {N : Nat} {st : AS} {th : List NLoc} {z : Zone} {a : Act} {w : World} (h : Sim E N st th z a w) {x : AV} {v : Value} (hr : Rep w z th x v) (d : Option Nat) (hd : ∀ i, d = some i → i < N) : Sim E N (st.put d x) th z (a.put d v) w := by
  cases d with
  | none => exact h
  | some d =>
    refine ⟨h.mem, by simp [Act.put, h.size], by simp [Act.put, h.dfs], fun i y hi => ?_⟩
    simp only [AS.put, lk] at hi
    simp only [Act.put]
    by_cases he : d = i
    · subst he
      rw [if_pos rfl] at hi
      cases hi
      exact ⟨v, by rw [Array.getElem?_setIfInBounds_self_of_lt]; rw [h.size]; exact hd _ rfl, hr⟩
    · rw [if_neg he] at hi
      obtain ⟨u, hu, hr'⟩ := h.slots i y hi
      exact ⟨u, by rw [Array.getElem?_setIfInBounds_ne he]; exact hu, hr'⟩
/-- A new own thing in a world that has grown. -/
theorem Mem.add {E : Env} {o : List (Nat × Nd)} {n : Nat} {th : List NLoc} {z : Zone} {w w' : World} (h : Mem E o n th z w) (e : Ext w w') (L : NLoc) (nd : Nd) (hb : w.heap.size ≤ L.b) (hb' : L.b < w'.heap.size) (hn : NdAt w' z (th ++ [L]) L nd)
    : Mem E ((n, nd) :: o) (n + 1) (th ++ [L]) z w' := by
  have h' := h.ext e
  have l : Le w' z w' z := Le.refl _ _
  have hget : (th ++ [L])[n]? = some L := by rw [← h.len]; simp
  refine ⟨by simp [h.len], fun i y hi => ?_, fun i j x y M M' hi hj hM hM' hp hp' hbb => ?_, h'.zlt, h'.grow, h'.frame, h'.zin, h'.zout, h'.zb, h'.globs, fun i L hi => pre_get _ (h.pre i L hi), h'.sys⟩
  · simp only [lk] at hi
    by_cases he : n = i
    · subst he
      rw [if_pos rfl] at hi; cases hi
      exact ⟨L, hget, hn, fun _ => ⟨hb', fun t hz => by have := h.zlt _ _ hz; omega, .inr (Nat.le_trans h.grow hb)⟩⟩
    · rw [if_neg he] at hi
      obtain ⟨M, h1, h2, h3⟩ := h'.nds i y hi
      exact ⟨M, pre_get _ h1, h2.on l (fun _ => rfl) [L], h3⟩
  · have old : ∀ i x M, lk ((n, nd) :: o) i = some x → (th ++ [L])[i]? = some M → M.ph = false → (i = n ∧ M = L) ∨ (∃ x, lk o i = some x ∧ th[i]? = some M ∧ M.b < w.heap.size) := by
      intro i x M hi hM hp
      simp only [lk] at hi
      by_cases he : n = i
      · subst he; rw [hget] at hM; cases hM; exact .inl ⟨rfl, rfl⟩
      · rw [if_neg he] at hi
        obtain ⟨M', h1, _, h3⟩ := h.nds i x hi
        have := pre_get [L] h1
        rw [this] at hM; cases hM
        exact .inr ⟨x, hi, h1, (h3 hp).1⟩
    rcases old i x M hi hM hp with ⟨rfl, rfl⟩ | ⟨x1, a1, b1, c1⟩ <;> rcases old j y M' hj hM' hp' with ⟨rfl, rfl⟩ | ⟨x2, a2, b2, c2⟩
    · rfl
    · omega
    · omega
    · exact h.inj i j x1 x2 M M' a1 a2 b1 b2 hp hp' hbb
end Go.AM
/- The abstract machine, 2: types as a table, and what the operations that only reckon and read yield. -/
namespace Go.AM
open Go
inductive TK where
  | bool | int (k : IntKind) | str | ptr (e : Nat) | slice (e : Nat) | arr (n e : Nat) | map (k e : Nat) | struct (fs : List (Nat × Nat)) | func | ifc | other
structure TY where
  k : TK
  size : Nat
  bytes : Nat
  zero : Option (List Value)
def TK.agg : TK → Bool
  | .struct _ | .arr _ _ => true
  | _ => false
def sizeAt (P : Program) (T : TypeId) : Nat := match P.info? T with | some i => i.size | none => 0
def tkOf (P : Program) : TypeDesc → TK
  | .bool => .bool
  | .int k => .int k
  | .string => .str
  | .pointer e => .ptr e
  | .slice e => .slice e
  | .array n e => .arr n e
  | .map k e => .map k e
  | .struct fs => .struct (fs.toList.map fun f => (f.offset, sizeAt P f.type))
  | .func _ _ _ => .func
  | .interface _ => .ifc
  | _ => .other
def okFs (P : Program) : TypeDesc → Bool
  | .struct fs => fs.toList.all fun f => (P.info? f.type).isSome
  | _ => true
def tyOf (P : Program) (T : TypeId) : Option TY :=
  match P.info? T, P.underlying T with
  | some i, some d => if okFs P d = true then some ⟨tkOf P d, i.size, i.bytes, i.zero.map fun v => v.cells.toList⟩ else none
  | _, _ => none
section
variable {P : Program} {T : TypeId} {y : TY} {w : World}
theorem tyOf_spec' (h : tyOf P T = some y) : ∃ i d, P.info? T = some i ∧ P.underlying T = some d ∧ okFs P d = true ∧ y = ⟨tkOf P d, i.size, i.bytes, i.zero.map fun v => v.cells.toList⟩ := by
  unfold tyOf at h
  split at h
  · rename_i i d h1 h2
    split at h
    · rename_i h3; cases h; exact ⟨i, d, h1, h2, h3, rfl⟩
    · cases h
  · cases h
theorem tyOf_spec (h : tyOf P T = some y) : ∃ i d, P.info? T = some i ∧ P.underlying T = some d ∧ y = ⟨tkOf P d, i.size, i.bytes, i.zero.map fun v => v.cells.toList⟩ := by
  obtain ⟨i, d, h1, h2, _, h3⟩ := tyOf_spec' h; exact ⟨i, d, h1, h2, h3⟩
theorem run_typeInfo {i : TypeInfo} (h : P.info? T = some i) : (typeInfo T).run P w = .ok i w := by
  simp [typeInfo, h]
theorem run_underlying {d : TypeDesc} (h : P.underlying T = some d) : (underlying T).run P w = .ok d w := by
  simp [underlying, h]
theorem run_sizeOf (h : tyOf P T = some y) : (sizeOf T).run P w = .ok y.size w := by
  obtain ⟨i, d, h1, h2, rfl⟩ := tyOf_spec h
  simp [sizeOf, run_typeInfo h1]
theorem run_isAgg (h : tyOf P T = some y) : (isAgg T).run P w = .ok y.k.agg w := by
  obtain ⟨i, d, h1, h2, rfl⟩ := tyOf_spec h
  simp only [isAgg, Sem.run_bind, run_underlying h2, Result.andThen_ok]
  cases d <;> simp [tkOf, TK.agg]
theorem run_zeroValue (h : tyOf P T = some y) {zs : List Value} (hz : y.zero = some zs) : ∃ v, (zeroValue T).run P w = .ok v w ∧ v.cells.toList = zs := by
  obtain ⟨i, d, h1, h2, rfl⟩ := tyOf_spec h
  simp only [Option.map_eq_some_iff] at hz
  obtain ⟨v, hv, rfl⟩ := hz
  exact ⟨v, by simp [zeroValue, run_typeInfo h1, hv], rfl⟩
theorem und_bool (h : tyOf P T = some y) (hk : y.k = .bool) : P.underlying T = some .bool := by
  obtain ⟨i, d, h1, h2, rfl⟩ := tyOf_spec h; cases d <;> simp [tkOf] at hk; exact h2
theorem und_int {k : IntKind} (h : tyOf P T = some y) (hk : y.k = .int k) : P.underlying T = some (.int k) := by
  obtain ⟨i, d, h1, h2, rfl⟩ := tyOf_spec h; cases d <;> simp [tkOf] at hk; subst hk; exact h2
theorem und_str (h : tyOf P T = some y) (hk : y.k = .str) : P.underlying T = some .string := by
  obtain ⟨i, d, h1, h2, rfl⟩ := tyOf_spec h; cases d <;> simp [tkOf] at hk; exact h2
theorem und_ptr {e : Nat} (h : tyOf P T = some y) (hk : y.k = .ptr e) : P.underlying T = some (.pointer e) := by
  obtain ⟨i, d, h1, h2, rfl⟩ := tyOf_spec h; cases d <;> simp [tkOf] at hk; subst hk; exact h2
theorem und_slice {e : Nat} (h : tyOf P T = some y) (hk : y.k = .slice e) : P.underlying T = some (.slice e) := by
  obtain ⟨i, d, h1, h2, rfl⟩ := tyOf_spec h; cases d <;> simp [tkOf] at hk; subst hk; exact h2
theorem und_arr {n e : Nat} (h : tyOf P T = some y) (hk : y.k = .arr n e) : P.underlying T = some (.array n e) := by
  obtain ⟨i, d, h1, h2, rfl⟩ := tyOf_spec h; cases d <;> simp [tkOf] at hk; obtain ⟨rfl, rfl⟩ := hk; exact h2
theorem und_map {n e : Nat} (h : tyOf P T = some y) (hk : y.k = .map n e) : P.underlying T = some (.map n e) := by
  obtain ⟨i, d, h1, h2, rfl⟩ := tyOf_spec h; cases d <;> simp [tkOf] at hk; obtain ⟨rfl, rfl⟩ := hk; exact h2
theorem und_struct {fs : List (Nat × Nat)} (h : tyOf P T = some y) (hk : y.k = .struct fs) : ∃ gs : Array Field, P.underlying T = some (.struct gs) ∧ (fs = gs.toList.map fun f => (f.offset, sizeAt P f.type)) ∧ ∀ f ∈ gs.toList, (P.info? f.type).isSome = true := by
  obtain ⟨i, d, h1, h2, h3, rfl⟩ := tyOf_spec' h
  cases d <;> simp only [tkOf] at hk <;> try cases hk
  rename_i gs
  exact ⟨gs, h2, rfl, List.all_eq_true.1 h3⟩
theorem und_not_ifc (h : tyOf P T = some y) (hk : y.k ≠ .ifc) : ∃ d, P.underlying T = some d ∧ ∀ ms, d ≠ .interface ms := by
  obtain ⟨i, d, h1, h2, rfl⟩ := tyOf_spec h
  exact ⟨d, h2, fun ms e => by subst e; exact hk rfl⟩
end
/-- An operand. -/
def ev (st : AS) (G : List (Nat × List Value)) : Operand → Option AV
  | .tmp t => lk st.m t
  | .const v => some (.r v)
  | .global g => (lk G g).map fun cs => .re true (cs.map .r) 0
  | .func f => some (.fn f [])
def evs (st : AS) (G : List (Nat × List Value)) : List Operand → Option (List AV)
  | [] => some []
  | x :: r => match ev st G x, evs st G r with
    | some a, some l => some (a :: l)
    | _, _ => none
/-- The run of cells behind an address. -/
def cellsAt (st : AS) : AV → Option (List AV × Nat)
  | .re _ c off => some (c, off)
  | .p n i off => match lk st.o n with
    | some (.box _ c) => if i = 0 then some (c, off) else none
    | some (.lst _ _ els) => (els[i]?).map fun e => (e, off)
    | none => none
  | _ => none
def pickC (y : TY) (c : List AV) (off : Nat) : Option AV :=
  if y.k.agg = true then (if off + y.size ≤ c.length then some (.agg ((c.drop off).take y.size)) else none)
  else c[off]?
def ptrAdd (d : Nat) : AV → Option AV
  | .re t c off => some (.re t c (off + d))
  | .p n i off => some (.p n i (off + d))
  | _ => none
def boolOf : AV → Option Bool
  | .r (.bool x) => some x
  | _ => none
def pickAV (c : Bool) (a b : AV) : AV := match boolOf a, boolOf b with
  | some x, some y => .r (.bool (bif c then x else y))
  | _, _ => bif c then a else b
def lenS : AV → Option AV
  | .ro _ _ els => some (.r (.int .i64 els.length))
  | .s _ _ len => some (.r (.int .i64 len))
  | .r (.slice none 0 0) => some (.r (.int .i64 0))
  | _ => none
def lenA (x : AV) : TK → Option AV
  | .slice _ => lenS x
  | .str => match x with
    | .r (.string s) => some (.r (.int .i64 s.size))
    | _ => none
  | .arr n _ => some (.r (.int .i64 n))
  | _ => none
def eByte (b : UInt8) : List AV := [.r (.int .u8 b.toNat)]
def unb : List (List AV) → Option (List UInt8)
  | [] => some []
  | [.r (.int .u8 n)] :: r => match unb r with
    | some l => if n = (UInt8.ofNat n.toNat).toNat then some (UInt8.ofNat n.toNat :: l) else none
    | none => none
  | _ :: _ => none
theorem unb_map (bs : List UInt8) : unb (bs.map eByte) = some bs := by
  induction bs with
  | nil => rfl
  | cons b r ih => simp [unb, eByte] at ih ⊢; simp [ih]
/-- The elements of a slice value. -/
def elemsOf (st : AS) (k : Nat) : AV → Option (List (List AV))
  | .ro _ k' els => if k' = k then some els else none
  | .s n lo len => match lk st.o n with
    | some (.lst _ k' els) => if k' = k ∧ lo + len ≤ els.length then some ((els.drop lo).take len) else none
    | _ => none
  | .r (.slice none 0 0) => some []
  | _ => none
def bAnd (k : IntKind) (a b : Int) : Int := k.wrap (BitVec.ofInt k.bits a &&& BitVec.ofInt k.bits b).toNat
def bOr (k : IntKind) (a b : Int) : Int := k.wrap (BitVec.ofInt k.bits a ||| BitVec.ofInt k.bits b).toNat
def bXor (k : IntKind) (a b : Int) : Int := k.wrap (BitVec.ofInt k.bits a ^^^ BitVec.ofInt k.bits b).toNat
def shlI (k : IntKind) (a b : Int) : Int := k.wrap (a * 2 ^ (min b.toNat k.bits))
def shrI (k : IntKind) (a b : Int) : Int := a.fdiv (2 ^ (min b.toNat k.bits))
def intA : BinOp → IntKind → Int → Int → Option AV
  | .add, k, a, b => some (.r (.int k (k.wrap (a + b))))
  | .sub, k, a, b => some (.r (.int k (k.wrap (a - b))))
  | .mul, k, a, b => some (.r (.int k (k.wrap (a * b))))
  | .quo, k, a, b => if b = 0 then none else some (.r (.int k (k.wrap (a.tdiv b))))
  | .rem, k, a, b => if b = 0 then none else some (.r (.int k (a.tmod b)))
  | .eql, _, a, b => some (.r (.bool (a == b)))
  | .neq, _, a, b => some (.r (.bool (a != b)))
  | .lss, _, a, b => some (.r (.bool (decide (a < b))))
  | .leq, _, a, b => some (.r (.bool (decide (a ≤ b))))
  | .gtr, _, a, b => some (.r (.bool (decide (a > b))))
  | .geq, _, a, b => some (.r (.bool (decide (a ≥ b))))
  | .and, k, a, b => some (.r (.int k (bAnd k a b)))
  | .or, k, a, b => some (.r (.int k (bOr k a b)))
  | .xor, k, a, b => some (.r (.int k (bXor k a b)))
  | _, _, _, _ => none
/-- A shift: the two kinds may differ. -/
def shA : BinOp → IntKind → Int → Int → Option AV
  | .shl, k, a, b => if b < 0 then none else some (.r (.int k (shlI k a b)))
  | .shr, k, a, b => if b < 0 then none else some (.r (.int k (shrI k a b)))
  | _, _, _, _ => none
def isSh : BinOp → Bool
  | .shl | .shr => true
  | _ => false
def strA : BinOp → ByteArray → ByteArray → Option AV
  | .add, a, b => if a.size + b.size ≤ 9223372036854775807 then some (.r (.string (a ++ b))) else none
  | .eql, a, b => some (.r (.bool (a.toList == b.toList)))
  | .neq, a, b => some (.r (.bool (!(a.toList == b.toList))))
  | .lss, a, b => some (.r (.bool (Op.bytesLess a.toList b.toList)))
  | .leq, a, b => some (.r (.bool (Op.bytesLess a.toList b.toList || a.toList == b.toList)))
  | .gtr, a, b => some (.r (.bool (!(Op.bytesLess a.toList b.toList || a.toList == b.toList))))
  | .geq, a, b => some (.r (.bool (!Op.bytesLess a.toList b.toList)))
  | _, _, _ => none
/-- Is a slice nil? -/
def nilA : AV → Option Bool
  | .r (.slice none 0 0) => some true
  | .ro _ _ (_ :: _) => some false
  | .s _ _ len => if 0 < len then some false else none
  | _ => none
def binA (op : BinOp) (y : TY) : AV → AV → Option AV
  | .r (.int k a), .r (.int k' b) => if isSh op = true then shA op k a b else if k = k' then intA op k a b else none
  | .r (.string a), .r (.string b) => strA op a b
  | .r (.bool a), .r (.bool b) => match y.k, op with
    | .bool, .eql => some (.r (.bool (a == b)))
    | .bool, .neq => some (.r (.bool (!(a == b))))
    | _, _ => none
  | x, .r (.slice none 0 0) => match y.k, op, nilA x with
    | .slice _, .eql, some b => some (.r (.bool b))
    | .slice _, .neq, some b => some (.r (.bool (!b)))
    | _, _, _ => none
  | _, _ => none
/-- What two values of a type are compared by. -/
inductive ET where
  | prim (k : TK)
  | str (fs : List (Nat × Nat × ET))
mutual
def etOf (P : Program) : Nat → TypeId → Option ET
  | 0, _ => none
  | d + 1, T => match P.underlying T with
    | some (.int k) => some (.prim (.int k))
    | some .string => some (.prim .str)
    | some .bool => some (.prim .bool)
    | some (.struct fs) => if P.stoodInHeld T = true then none else (etFs P d fs.toList).map .str
    | _ => none
def etFs (P : Program) : Nat → List Field → Option (List (Nat × Nat × ET))
  | _, [] => some []
  | 0, _ :: _ => none
  | d + 1, f :: fs => if f.name = "_" then none else match etOf P d f.type, etFs P d fs, P.info? f.type with
    | some t, some l, some i => some ((f.offset, i.size, t) :: l)
    | _, _, _ => none
end
def etTop (P : Program) (T : TypeId) : Option ET := if P.eqGuardType P.depth T = true then none else etOf P 200 T
def eqC : TK → AV → AV → Option Bool
  | .int _, .r (.int k a), .r (.int k' b) => if k = k' then some (a == b) else none
  | .str, .r (.string a), .r (.string b) => some (a.toList == b.toList)
  | .bool, .r (.bool a), .r (.bool b) => some (a == b)
  | _, _, _ => none
mutual
def eqT : ET → List AV → List AV → Option Bool
  | .prim k, [x], [y] => eqC k x y
  | .prim _, _, _ => none
  | .str fs, a, b => eqFs fs a b
def eqFs : List (Nat × Nat × ET) → List AV → List AV → Option Bool
  | [], _, _ => some true
  | (o, s, t) :: r, a, b => match eqT t ((a.drop o).take s) ((b.drop o).take s), eqFs r a b with
    | some p, some q => some (p && q)
    | _, _ => none
end
def eqA (P : Program) (op : BinOp) (T : TypeId) (a b : List AV) : Option AV :=
  match op, etTop P T with
  | .eql, some (.str fs) => (eqFs fs a b).map fun r => .r (.bool r)
  | .neq, some (.str fs) => (eqFs fs a b).map fun r => .r (.bool (!r))
  | _, _ => none
def unA : UnOp → AV → Option AV
  | .not, .r (.bool b) => some (.r (.bool (!b)))
  | .neg, .r (.int k n) => some (.r (.int k (k.wrap (0 - n))))
  | _, _ => none
def cvA (P : Program) (st : AS) (s d : TY) : AV → Option AV
  | .r (.int _ n) => match d.k with
    | .int k => some (.r (.int k (k.wrap n)))
    | _ => none
  | .r (.string b) => match s.k, d.k with
    | .str, .str => some (.r (.string b))
    | _, _ => none
  | x => match s.k, d.k with
    | .slice e, .str => match tyOf P e, elemsOf st 1 x with
      | some ⟨.int .u8, _, _, _⟩, some els => match unb els with
        | some bs => some (.r (.string ⟨bs.toArray⟩))
        | none => none
      | _, _ => none
    | _, _ => none
/-- Bounds of a slice expression, within the length. -/
def hiA (len : Nat) : Option AV → Option Nat
  | none => some len
  | some (.r (.int _ h)) => if 0 ≤ h ∧ h ≤ len then some h.toNat else none
  | _ => none
def loA (h : Nat) : Option AV → Option Nat
  | none => some 0
  | some (.r (.int _ l)) => if 0 ≤ l ∧ l ≤ h then some l.toNat else none
  | _ => none
def bnd (len : Nat) (lo hi : Option AV) : Option (Nat × Nat) :=
  match hiA len hi with
  | none => none
  | some h => (loA h lo).map fun l => (l, h)
def slA (P : Program) (st : AS) (y : TY) (lo hi : Option AV) : AV → Option AV
  | .r (.string s) => match y.k with
    | .str => (bnd s.size lo hi).map fun (l, h) => .r (.string (s.extract l h))
    | _ => none
  | .ro t k els => match y.k with
    | .slice e => match tyOf P e with
      | some ye => if k = ye.size then (bnd els.length lo hi).map fun (l, h) => .ro t k ((els.take h).drop l) else none
      | none => none
    | _ => none
  | .s n o len => match y.k with
    | .slice e => match tyOf P e, lk st.o n with
      | some ye, some (.lst _ k _) => if k = ye.size then (bnd len lo hi).map fun (l, h) => .s n (o + l) (h - l) else none
      | _, _ => none
    | _ => none
  | .r (.slice none 0 0) => match y.k with
    | .slice e => match tyOf P e with
      | some _ => (bnd 0 lo hi).map fun _ => .r (.slice none 0 0)
      | none => none
    | _ => none
  | _ => none
/-- With a third bound, within the length. -/
def sl3A (P : Program) (st : AS) (y : TY) (lo : Option AV) (hi m : AV) (x : AV) : Option AV :=
  match lenS x, m, hi with
  | some (.r (.int _ n)), .r (.int _ mv), .r (.int _ hv) => if 0 ≤ mv ∧ mv ≤ n ∧ hv ≤ mv then slA P st y lo (some hi) x else none
  | _, _, _ => none
def capA (x : AV) : TK → Option AV
  | .slice _ => match x with
    | .r (.slice none 0 0) => some (.r (.int .i64 0))
    | _ => none
  | _ => none
def ixA (st : AS) (P : Program) (y : TY) (i : Int) (x : AV) : Option AV :=
  match y.k with
  | .slice e => match tyOf P e, x with
    | some ye, .ro t k els => if k = ye.size ∧ 0 ≤ i then (els[i.toNat]?).map fun c => .re t c 0 else none
    | some ye, .s n lo len => match lk st.o n with
      | some (.lst _ k _) => if k = ye.size ∧ 0 ≤ i ∧ i < len then some (.p n (lo + i.toNat) 0) else none
      | _ => none
    | _, _ => none
  | .arr m e => match tyOf P e with
    | some ye => if 0 ≤ i ∧ i < m then ptrAdd (i.toNat * ye.size) x else none
    | none => none
  | _ => none
def ixV (P : Program) (y : TY) (i : Int) (x : AV) : Option AV :=
  match y.k, x with
  | .str, .r (.string s) => if 0 ≤ i then (s[i.toNat]?).map fun b => .r (.int .u8 b.toNat) else none
  | .arr m e, .agg c => match tyOf P e with
    | some ye => if 0 ≤ i ∧ i < m then pickC ye c (i.toNat * ye.size) else none
    | none => none
  | _, _ => none
def AV.cells : AV → List AV
  | .agg c => c
  | x => [x]
def splice (cs : List AV) (off : Nat) (new : List AV) : List AV := cs.take off ++ new ++ cs.drop (off + new.length)
/-- Whether a value is one cell, or a struct whose cells are laid side by side. -/
def AV.okPart : AV → Bool
  | .r (.agg _) => false
  | _ => true
def fillA (place : Nat → Option (Nat × Nat)) (cs : List AV) : List (Nat × AV) → Option (List AV)
  | [] => some cs
  | (i, v) :: r => match place i with
    | none => none
    | some (off, sz) => if v.cells.length = sz ∧ off + sz ≤ cs.length ∧ v.okPart = true then fillA place (splice cs off v.cells) r else none
def evParts (st : AS) (G : List (Nat × List Value)) : List (Nat × Operand) → Option (List (Nat × AV))
  | [] => some []
  | (i, x) :: r => match ev st G x, evParts st G r with
    | some a, some l => some ((i, a) :: l)
    | _, _ => none
def evOpt (st : AS) (G : List (Nat × List Value)) : Option Operand → Option (Option AV)
  | none => some none
  | some x => (ev st G x).map some
/-- What an operation yields that only reckons and reads. -/
def qv (P : Program) (G : List (Nat × List Value)) (st : AS) : Op → Option AV
  | .move x => ev st G x
  | .assign x => ev st G x
  | .pick c a b => match ev st G c, ev st G a, ev st G b with
    | some (.r (.bool c)), some a, some b => some (pickAV c a b)
    | _, _, _ => none
  | .load T x => match tyOf P T, ev st G x with
    | some y, some x => match cellsAt st x with
      | some (c, off) => pickC y c off
      | none => none
    | _, _ => none
  | .nilCheck x => match ev st G x with
    | some (.re t c off) => some (.re t c off)
    | some (.p n i off) => some (.p n i off)
    | some (.fn f c) => some (.fn f c)
    | _ => none
  | .binOp op T x y _ => match tyOf P T, ev st G x, ev st G y with
    | some _, some (.agg a), some (.agg b) => eqA P op T a b
    | some ty, some a, some b => binA op ty a b
    | _, _, _ => none
  | .unOp op _ x => match ev st G x with
    | some a => unA op a
    | none => none
  | .convert s d x => match tyOf P s, tyOf P d, ev st G x with
    | some s, some d, some x => cvA P st s d x
    | _, _, _ => none
  | .makeInterface T x => match tyOf P T, ev st G x with
    | some ⟨.ifc, _, _, _⟩, _ => none
    | some _, some x => some (.ifc T x)
    | _, _ => none
  | .makeFunc (.func f) first caps => match first.toList, evs st G caps.toList with
    | [], some c => some (.fn f c)
    | _, _ => none
  | .slice T x lo hi none => match tyOf P T, ev st G x, evOpt st G lo, evOpt st G hi with
    | some y, some x, some lo, some hi => slA P st y lo hi x
    | _, _, _, _ => none
  | .slice T x lo (some hi) (some m) => match tyOf P T, ev st G x, evOpt st G lo, ev st G hi, ev st G m with
    | some y, some x, some lo, some hi, some m => sl3A P st y lo hi m x
    | _, _, _, _, _ => none
  | .fieldAddr T x f => match tyOf P T, ev st G x with
    | some ⟨.struct fs, _, _, _⟩, some x => match fs[f]? with
      | some (off, sz) => if sz = 0 then none else ptrAdd off x
      | none => none
    | _, _ => none
  | .indexAddr T x i => match tyOf P T, ev st G x, ev st G i with
    | some y, some x, some (.r (.int _ i)) => ixA st P y i x
    | _, _, _ => none
  | .index T x i => match tyOf P T, ev st G x, ev st G i with
    | some y, some x, some (.r (.int _ i)) => ixV P y i x
    | _, _, _ => none
  | .extract t i => match ev st G t with
    | some (.tup c) => c[i]?
    | _ => none
  | .build T parts => match tyOf P T, evParts st G parts.toList with
    | some ⟨.struct fs, _, _, some z⟩, some l => (fillA (fs[·]?) (z.map .r) l).map .agg
    | some ⟨.arr _ e, _, _, some z⟩, some l => match tyOf P e with
      | some ye => (fillA (fun i => some (i * ye.size, ye.size)) (z.map .r) l).map .agg
      | none => none
    | _, _ => none
  | .call { callee := .builtin .len, args, argTypes } => match evs st G args.toList, argTypes[0]? with
    | some [x], some T => match tyOf P T with
      | some y => lenA x y.k
      | none => none
    | _, _ => none
  | .call { callee := .builtin .cap, args, argTypes } => match evs st G args.toList, argTypes[0]? with
    | some [x], some T => match tyOf P T with
      | some y => capA x y.k
      | none => none
    | _, _ => none
  | _ => none
end Go.AM
