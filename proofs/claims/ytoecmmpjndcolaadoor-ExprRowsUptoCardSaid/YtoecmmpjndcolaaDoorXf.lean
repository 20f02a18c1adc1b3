/- Expressions: both Expression and ExpressionFault, as lists of ops. -/
import Derived.Test.YtoecmmpjndcolaaDoorXe
import Derived.Test.YtoecmmpjndcolaaDoorXv
import Derived.Test.YtoecmmpjndcolaaDoorSl
import Derived.Outline
set_option linter.unusedSimpArgs false
set_option linter.unusedVariables false
namespace Go.Proofs.YtoecmmpjndcolaaDoor
open Go.RowKit
structure OP where
  k : Int
  vk : Int
  vn : Int
  vs : ByteArray
  nm : ByteArray
def OP.cells (x : OP) : List Value := [.int .i64 x.k, .int .i64 x.vk, .int .i64 x.vn, .string x.vs, .string x.nm]
abbrev OpsAt (w : World) (a : Option Addr) (l : List OP) : Prop := SlAt w 5 OP.cells a l
theorem OpsAt.at {w : World} {a : Option Addr} {l : List OP} (h : OpsAt w a l) {j : Nat} {x : OP} (hj : l[j]? = some x) : ∃ b o, a = some ⟨b, o, none⟩ ∧ b < w.heap.size ∧ w.cell? ⟨b, o + j * 5, none⟩ = some (.int .i64 x.k) ∧ w.cell? ⟨b, o + j * 5 + 1, none⟩ = some (.int .i64 x.vk) ∧ w.cell? ⟨b, o + j * 5 + 2, none⟩ = some (.int .i64 x.vn) ∧ w.cell? ⟨b, o + j * 5 + 3, none⟩ = some (.string x.vs) ∧ w.cell? ⟨b, o + j * 5 + 4, none⟩ = some (.string x.nm) := by
  rcases h with rfl | ⟨b, o, rfl, hb, hc⟩
  · simp at hj
  · exact ⟨b, o, rfl, hb, hc j x hj 0 _ rfl, hc j x hj 1 _ rfl, hc j x hj 2 _ rfl, hc j x hj 3 _ rfl, hc j x hj 4 _ rfl⟩
def popsM (k : Int) : Int := if k = 1 ∨ k = 2 then 0 else if k = 5 ∨ k = 11 then 1 else 2
theorem popsM_bd (k : Int) : 0 ≤ popsM k ∧ popsM k ≤ 2 := by unfold popsM; split <;> (try split) <;> omega
theorem pops_any (k : Int) (w : World) : Calls Tryd.prog 106 #[.int .i64 k] w fun e w' => e = .returned (.int .i64 (popsM k)) ∧ w = w' := by
  go_enter Tryd.func106, Tryd.ntmps106
  go_wp2
  all_goals
    go_ret
    go_light
    refine ⟨?_, rfl⟩
    simp_all [popsM]
theorem works_any (k : Int) (w : World) : Calls Tryd.prog 56 #[.int .i64 k] w fun e w' => e = .returned (.int .i64 (popsM k)) ∧ w = w' := by
  go_enter Tryd.func56, Tryd.ntmps56
  go_wp2
  all_goals
    go_ret
    go_light
    refine ⟨?_, rfl⟩
    simp_all [popsM]
def litM (k n : Int) (s : ByteArray) : Int := if k = 2 ∧ n = -9223372036854775808 then 3 else vcheck k n s
theorem lit_any (k n : Int) (s : ByteArray) (w : World) (hs : s.size ≤ maxLen) : Calls Tryd.prog 105 #[.agg #[.int .i64 k, .int .i64 n, .string s]] w fun e w' => e = .returned (.int .i64 (litM k n s)) ∧ Below w.heap.size w w' := by
  by_cases h : k = 2 ∧ n = -9223372036854775808
  · have e : litM k n s = 3 := if_pos h
    obtain ⟨rfl, rfl⟩ := h
    rw [e]
    clear e
    go_enter Tryd.func105, Tryd.ntmps105
    go_wp2
    go_ret
    exact ⟨rfl, by (repeat' (first | (with_reducible exact Below.refl _ _) | (with_reducible assumption) | (with_reducible refine Below.alloc ?_ ?_ _) | (with_reducible refine Below.drew ?_) | (with_reducible refine below_drewN ?_) | (with_reducible refine Below.setCell ?_ ?_ _) | (with_reducible refine below_step ?_ ?_ (by with_reducible assumption)) | go_size))⟩
  have e : litM k n s = vcheck k n s := if_neg h
  rw [e]
  clear e
  by_cases h2 : k = 2
  · subst h2
    have h3 : (n == -9223372036854775808) = false := by
      rw [beq_eq_false_iff_ne]; exact fun h4 => h ⟨rfl, h4⟩
    clear h
    go_enter Tryd.func105, Tryd.ntmps105
    go_wp2_with (go_at_call 28; refine (val_any 2 n s _ hs).mono ?_; rintro e w1 ⟨rfl, hb⟩; have hz := hb.size; (try simp only [World.size_alloc, World.size_setCell, World.size_drew, size_drewN] at hz))
    go_ret
    exact ⟨rfl, by (repeat' (first | (with_reducible exact Below.refl _ _) | (with_reducible assumption) | (with_reducible refine Below.alloc ?_ ?_ _) | (with_reducible refine Below.drew ?_) | (with_reducible refine below_drewN ?_) | (with_reducible refine Below.setCell ?_ ?_ _) | (with_reducible refine below_step ?_ ?_ (by with_reducible assumption)) | go_size))⟩
  · have h3 : (k == 2) = false := by
      rw [beq_eq_false_iff_ne]; exact h2
    clear h h2
    go_enter Tryd.func105, Tryd.ntmps105
    go_wp2_with (go_at_call 28; refine (val_any k n s _ hs).mono ?_; rintro e w1 ⟨rfl, hb⟩; have hz := hb.size; (try simp only [World.size_alloc, World.size_setCell, World.size_drew, size_drewN] at hz))
    go_ret
    exact ⟨rfl, by (repeat' (first | (with_reducible exact Below.refl _ _) | (with_reducible assumption) | (with_reducible refine Below.alloc ?_ ?_ _) | (with_reducible refine Below.drew ?_) | (with_reducible refine below_drewN ?_) | (with_reducible refine Below.setCell ?_ ?_ _) | (with_reducible refine below_step ?_ ?_ (by with_reducible assumption)) | go_size))⟩
theorem litFault_any (k n : Int) (s : ByteArray) (w : World) (hs : s.size ≤ maxLen) : Calls Tryd.prog 73 #[.agg #[.int .i64 k, .int .i64 n, .string s]] w fun e w' => e = .returned (.int .i64 (litM k n s)) ∧ Below w.heap.size w w' := by
  by_cases h : k = 2 ∧ n = -9223372036854775808
  · have e : litM k n s = 3 := if_pos h
    obtain ⟨rfl, rfl⟩ := h
    rw [e]
    clear e
    go_enter Tryd.func73, Tryd.ntmps73
    go_wp2
    go_ret
    exact ⟨rfl, by (repeat' (first | (with_reducible exact Below.refl _ _) | (with_reducible assumption) | (with_reducible refine Below.alloc ?_ ?_ _) | (with_reducible refine Below.drew ?_) | (with_reducible refine below_drewN ?_) | (with_reducible refine Below.setCell ?_ ?_ _) | (with_reducible refine below_step ?_ ?_ (by with_reducible assumption)) | go_size))⟩
  have e : litM k n s = vcheck k n s := if_neg h
  rw [e]
  clear e
  by_cases h2 : k = 2
  · subst h2
    have h3 : (n == -9223372036854775808) = false := by
      rw [beq_eq_false_iff_ne]; exact fun h4 => h ⟨rfl, h4⟩
    clear h
    go_enter Tryd.func73, Tryd.ntmps73
    go_wp2_with (go_at_call 29; refine (vfault_any 2 n s _ hs).mono ?_; rintro e w1 ⟨rfl, hb⟩; have hz := hb.size; (try simp only [World.size_alloc, World.size_setCell, World.size_drew, size_drewN] at hz))
    go_ret
    exact ⟨rfl, by (repeat' (first | (with_reducible exact Below.refl _ _) | (with_reducible assumption) | (with_reducible refine Below.alloc ?_ ?_ _) | (with_reducible refine Below.drew ?_) | (with_reducible refine below_drewN ?_) | (with_reducible refine Below.setCell ?_ ?_ _) | (with_reducible refine below_step ?_ ?_ (by with_reducible assumption)) | go_size))⟩
  · have h3 : (k == 2) = false := by
      rw [beq_eq_false_iff_ne]; exact h2
    clear h h2
    go_enter Tryd.func73, Tryd.ntmps73
    go_wp2_with (go_at_call 29; refine (vfault_any k n s _ hs).mono ?_; rintro e w1 ⟨rfl, hb⟩; have hz := hb.size; (try simp only [World.size_alloc, World.size_setCell, World.size_drew, size_drewN] at hz))
    go_ret
    exact ⟨rfl, by (repeat' (first | (with_reducible exact Below.refl _ _) | (with_reducible assumption) | (with_reducible refine Below.alloc ?_ ?_ _) | (with_reducible refine Below.drew ?_) | (with_reducible refine below_drewN ?_) | (with_reducible refine Below.setCell ?_ ?_ _) | (with_reducible refine below_step ?_ ?_ (by with_reducible assumption)) | go_size))⟩
def zeroV (o : OP) : Bool := o.vk == 0 && o.vn == 0 && o.vs.toList == []
/-- What is wrong with an op at a height. -/
def stepM (o : OP) (h : Int) : Int :=
  if o.k < 1 ∨ 11 < o.k then 2 else if litM o.vk o.vn o.vs ≠ 0 then litM o.vk o.vn o.vs
  else if (o.k ≠ 1 ∧ zeroV o = false) ∨ (o.k ≠ 2 ∧ o.nm.toList ≠ []) then 6 else if o.k = 2 ∧ nameM o.nm ≠ 0 then nameM o.nm else if h < popsM o.k then 7 else 0
theorem step_in (o : OP) (h : Int) (h1 : 1 ≤ o.k) (h2 : o.k ≤ 11) : stepM o h = if litM o.vk o.vn o.vs ≠ 0 then litM o.vk o.vn o.vs
  else if (o.k ≠ 1 ∧ zeroV o = false) ∨ (o.k ≠ 2 ∧ o.nm.toList ≠ []) then 6 else if o.k = 2 ∧ nameM o.nm ≠ 0 then nameM o.nm else if h < popsM o.k then 7 else 0 := by
  unfold stepM; rw [if_neg (by omega)]
theorem step_out (o : OP) (h : Int) (h1 : o.k < 1 ∨ 11 < o.k) : stepM o h = 2 := by unfold stepM; rw [if_pos h1]
def exprFrom : List OP → Int → Int
  | [], h => if h ≠ 1 then 7 else 0
  | o :: r, h => if stepM o h ≠ 0 then stepM o h else exprFrom r (h + 1 - popsM o.k)
def exprM (l : List OP) : Int := if 40 < l.length then 10 else exprFrom l 0
theorem drop_cons' {α : Type} {l : List α} {k : Nat} {x : α} (h : l[k]? = some x) : l.drop k = x :: l.drop (k + 1) := by
  obtain ⟨hk, he⟩ := List.getElem?_eq_some_iff.1 h
  rw [List.drop_eq_getElem_cons hk, he]
theorem ret_eq {a b : Int} (h : a = b) : Ending.returned (.int .i64 b) = .returned (.int .i64 a) := by rw [h]
set_option maxRecDepth 100000 in
set_option maxHeartbeats 2000000 in
theorem expression_any (a : Option Addr) (l : List OP) (cap : Nat) (w : World) (hl : OpsAt w a l) (hn : l.length ≤ 1048576) (hs : ∀ x ∈ l, x.vs.size ≤ maxLen ∧ x.nm.size ≤ maxLen) (hM : StrsAt w 1 marksS) (hg : 1 < w.heap.size) (hW : StrsAt w 2 wordsS) (hv : 2 < w.heap.size) :
    Calls Tryd.prog 50 #[.slice a l.length cap] w fun e w' => e = .returned (.int .i64 (exprM l)) ∧ Below w.heap.size w w' := by
  have HL := Lib.hid hl
  have HS := Lib.hid hs
  have HM := Lib.hid hM
  have HW := Lib.hid hW
  clear hl hs hM hW
  by_cases h40 : 40 < l.length
  · go_enter Tryd.func50, Tryd.ntmps50
    go_wp2
    go_ret
    go_light
    exact ⟨by rw [exprM, if_pos h40]; rfl, Below.refl _ _⟩
  have EM : Hid (exprM l = exprFrom l 0) := Lib.hid (by rw [exprM, if_neg h40])
  have h40' : l.length ≤ 40 := by omega
  clear h40
  go_enter Tryd.func50, Tryd.ntmps50
  go_wp2
  go_loopw [3, 13] (fun h i wr => ∃ (k : Nat) (hi : Int), k ≤ l.length ∧ i = .int .i64 k ∧ h = .int .i64 hi ∧ 0 ≤ hi ∧ hi ≤ k ∧ Hid (exprM l = exprFrom (l.drop k) hi) ∧ Hid (Below w.heap.size w wr)) (fun _ i _ => l.length - (intOf i).toNat)
  case atStart => exact ⟨0, 0, by omega, rfl, rfl, by omega, by omega, by simpa using EM, Lib.hid (Below.refl _ _)⟩
  case round =>
    obtain ⟨k, hi, hk, rfl, rfl, hi0, hi1, HE, HB⟩ := hrel
    by_cases hlt : k < l.length
    · obtain ⟨x, hx⟩ : ∃ x, l[k]? = some x := ⟨l[k], by simp [hlt]⟩
      obtain ⟨b, o, rfl, hb, c0, c1, c2, c3, c4⟩ := HL.out.at hx
      obtain ⟨hs1, hs2⟩ := HS.out x (List.mem_of_getElem? hx)
      have bel := HB.out
      have szr := bel.size
      have c0 := (bel.cell (p := ⟨b, o + k * 5, none⟩) hb).trans c0
      have c1 := (bel.cell (p := ⟨b, o + k * 5 + 1, none⟩) hb).trans c1
      have c2 := (bel.cell (p := ⟨b, o + k * 5 + 2, none⟩) hb).trans c2
      have c3 := (bel.cell (p := ⟨b, o + k * 5 + 3, none⟩) hb).trans c3
      have c4 := (bel.cell (p := ⟨b, o + k * 5 + 4, none⟩) hb).trans c4
      have HD := Lib.hid (drop_cons' hx)
      have pb := popsM_bd x.k
      have HX := Lib.hid hx
      obtain ⟨ok, vk, vn, vs, nm⟩ := x
      simp only at c0 c1 c2 c3 c4 hs1 hs2 pb
      clear hx
      have HLI := Lib.hid (fun w1 => lit_any vk vn vs w1 hs1)
      have HNA := Lib.hid (fun w1 (hb : Below w.heap.size w w1) => name_any nm w1 hs2 (HM.out.below hb hg) (Nat.lt_of_lt_of_le hg hb.size) (HW.out.below hb hv) (Nat.lt_of_lt_of_le hv hb.size))
      obtain ⟨pb0, pb1⟩ := pb
      have pp1 : popsM 1 = 0 := by decide
      have pp2 : popsM 2 = 0 := by decide
      have EQ : Hid (∀ v, stepM ⟨ok, vk, vn, vs, nm⟩ hi = v → v ≠ 0 → exprM l = v) := Lib.hid (fun v h1 h2 => by rw [HE.out, HD.out, exprFrom, h1, if_pos h2])
      have EZ : Hid (∀ h', stepM ⟨ok, vk, vn, vs, nm⟩ hi = 0 → hi + 1 - popsM ok = h' → exprM l = exprFrom (l.drop (k + 1)) h') := Lib.hid (fun h' h1 h2 => by rw [HE.out, HD.out, exprFrom, h1, if_neg (by simp), h2])
      clear HE HX HD
      go_wp2_with (first
        | (go_at_call 105; refine (HLI.out _).mono ?_; rintro e w1 ⟨rfl, hb⟩; have hz := hb.size; (try simp only [World.size_alloc, World.size_setCell, World.size_drew, size_drewN] at hz); (try (have zw1_0 : wr.heap.size < w1.heap.size := (by omega))); (try (have cw1_0 := fun o => hb.cell (p := ⟨wr.heap.size, o, none⟩) (by (try simp only [World.size_alloc, World.size_setCell, World.size_drew, size_drewN]); omega))); (try (have fw1_0 := fun o => hb.frozen (p := ⟨wr.heap.size, o, none⟩) (by (try simp only [World.size_alloc, World.size_setCell, World.size_drew, size_drewN]); omega))); have hb1 := hb)
        | (go_at_call 58; refine (HNA.out _ (by (repeat' (first | (with_reducible exact Below.refl _ _) | (with_reducible assumption) | (with_reducible refine Below.alloc ?_ ?_ _) | (with_reducible refine Below.drew ?_) | (with_reducible refine below_drewN ?_) | (with_reducible refine Below.setCell ?_ ?_ _) | (with_reducible refine below_step ?_ ?_ (by with_reducible assumption)) | go_size)))).mono ?_; rintro e w2 ⟨rfl, hb⟩; have hz := hb.size; (try simp only [World.size_alloc, World.size_setCell, World.size_drew, size_drewN] at hz); (try (have zw2_0 : wr.heap.size < w2.heap.size := (by omega))); (try (have cw2_0 := fun o => hb.cell (p := ⟨wr.heap.size, o, none⟩) (by (try simp only [World.size_alloc, World.size_setCell, World.size_drew, size_drewN]); omega))); (try (have fw2_0 := fun o => hb.frozen (p := ⟨wr.heap.size, o, none⟩) (by (try simp only [World.size_alloc, World.size_setCell, World.size_drew, size_drewN]); omega))); have hb2 := hb)
        | (go_at_call 106; refine (pops_any _ _).mono ?_; rintro e w1 ⟨rfl, rfl⟩))
      all_goals first
        | (go_ret
           go_light
           refine ⟨?_, by (repeat' (first | (with_reducible exact Below.refl _ _) | (with_reducible assumption) | (with_reducible refine Below.alloc ?_ ?_ _) | (with_reducible refine Below.drew ?_) | (with_reducible refine below_drewN ?_) | (with_reducible refine Below.setCell ?_ ?_ _) | (with_reducible refine below_step ?_ ?_ (by with_reducible assumption)) | go_size))⟩
           have EQ := EQ.out
           clear EZ HNA HLI HB HL HS HM HW EM
           first
             | (refine ret_eq (EQ 2 (step_out _ _ ?_) (by decide)); show ok < 1 ∨ 11 < ok; omega)
             | (refine ret_eq (EQ 6 ?_ (by decide)); rw [step_in _ _ (show 1 ≤ ok by omega) (show ok ≤ 11 by omega)]; simp_all [zeroV]; done)
             | (refine ret_eq (EQ (litM vk vn vs) ?_ ?_) <;> (try rw [step_in _ _ (show 1 ≤ ok by omega) (show ok ≤ 11 by omega)]) <;> simp_all <;> done)
             | (refine ret_eq (EQ (nameM nm) ?_ ?_) <;> (try rw [step_in _ _ (show 1 ≤ ok by omega) (show ok ≤ 11 by omega)]) <;> simp_all [zeroV] <;> done)
             | (refine ret_eq (EQ 7 ?_ (by decide)); rw [step_in _ _ (show 1 ≤ ok by omega) (show ok ≤ 11 by omega)]; simp_all [zeroV]; done))
        | (go_roundw
           case rel =>
             go_light
             refine ⟨k + 1, _, by omega, by go_num, rfl, ?_, ?_, ?_, ?_⟩
             · first | omega | (simp_all; done) | (simp_all; omega)
             · first | omega | (simp_all; done) | (simp_all; omega)
             · have EZ := EZ.out
               refine Lib.hid (EZ _ ?_ ?_)
               · clear EZ HNA HLI HB HL HS HM HW EM EQ; rw [step_in _ _ (show 1 ≤ ok by omega) (show ok ≤ 11 by omega)]; simp_all [zeroV]; try omega
               · first | omega | (simp_all; done) | (simp_all; omega)
             · exact Lib.hid (by (repeat' (first | (with_reducible exact Below.refl _ _) | (with_reducible assumption) | (with_reducible refine Below.alloc ?_ ?_ _) | (with_reducible refine Below.drew ?_) | (with_reducible refine below_drewN ?_) | (with_reducible refine Below.setCell ?_ ?_ _) | (with_reducible refine below_step ?_ ?_ (by with_reducible assumption)) | go_size)))
           case measure => simp [intOf]; omega)
    · obtain rfl : k = l.length := by omega
      have HE' : exprM l = if hi ≠ 1 then 7 else 0 := by rw [HE.out, List.drop_length]; rfl
      have HE2 := Lib.hid HE'
      clear HE' HE
      by_cases h1 : hi = 1
      · have h2 : (hi != 1) = false := by simpa using h1
        have HR : Hid (exprM l = 0) := Lib.hid (by rw [HE2.out, if_neg (fun n => n h1)])
        clear h1
        go_wp2
        go_ret
        go_light
        exact ⟨by rw [HR.out]; rfl, HB.out⟩
      · have h2 : (hi != 1) = true := by simpa using h1
        have HR : Hid (exprM l = 7) := Lib.hid (by rw [HE2.out, if_pos h1])
        clear h1
        go_wp2
        go_ret
        go_light
        exact ⟨by rw [HR.out]; rfl, HB.out⟩
end Go.Proofs.YtoecmmpjndcolaaDoor
