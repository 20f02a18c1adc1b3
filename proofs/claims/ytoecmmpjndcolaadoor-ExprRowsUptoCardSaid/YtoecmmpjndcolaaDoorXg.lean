/- The reference's ExpressionFault; the law. -/
import Derived.Test.YtoecmmpjndcolaaDoorXf
set_option linter.unusedSimpArgs false
set_option linter.unusedVariables false
namespace Go.Proofs.YtoecmmpjndcolaaDoor
open Go.RowKit
set_option maxRecDepth 100000 in
set_option maxHeartbeats 2000000 in
theorem expressionFault_any (a : Option Addr) (l : List OP) (cap : Nat) (w : World) (hl : OpsAt w a l) (hn : l.length ≤ 1048576) (hs : ∀ x ∈ l, x.vs.size ≤ maxLen ∧ x.nm.size ≤ maxLen) :
    Calls Tryd.prog 54 #[.slice a l.length cap] w fun e w' => e = .returned (.int .i64 (exprM l)) ∧ Below w.heap.size w w' := by
  have HL := Lib.hid hl
  have HS := Lib.hid hs
  clear hl hs
  by_cases h40 : 40 < l.length
  · go_enter Tryd.func54, Tryd.ntmps54
    go_wp2
    go_ret
    go_light
    exact ⟨by rw [exprM, if_pos h40]; rfl, Below.refl _ _⟩
  have EM : Hid (exprM l = exprFrom l 0) := Lib.hid (by rw [exprM, if_neg h40])
  have h40' : l.length ≤ 40 := by omega
  clear h40
  go_enter Tryd.func54, Tryd.ntmps54
  go_wp2
  go_loopw [3, 4] (fun h i wr => ∃ (k : Nat) (hi : Int), k ≤ l.length ∧ i = .int .i64 k ∧ h = .int .i64 hi ∧ 0 ≤ hi ∧ hi ≤ k ∧ Hid (exprM l = exprFrom (l.drop k) hi) ∧ Hid (Below w.heap.size w wr)) (fun _ i _ => l.length - (intOf i).toNat)
  case atStart => exact ⟨0, 0, by omega, rfl, rfl, by omega, by omega, by simpa using EM, Lib.hid (Below.refl _ _)⟩
  case round =>
    obtain ⟨k, hi, hk, rfl, rfl, hi0, hi1, HE, HB⟩ := hrel
    by_cases hlt : k < l.length
    · obtain ⟨x, hx⟩ : ∃ x, l[k]? = some x := ⟨l[k], by simp [hlt]⟩
      obtain ⟨b, o, rfl, hb, c0, c1, c2, c3, c4⟩ := HL.out.at hx
      obtain ⟨hs1, hs2⟩ := HS.out x (List.mem_of_getElem? hx)
      have bel := HB.out
      have szr := bel.size
      have c0 := (bel.cell (p := ⟨b, o + k * 5, none⟩) hb).trans c0
      have c1 := (bel.cell (p := ⟨b, o + k * 5 + 1, none⟩) hb).trans c1
      have c2 := (bel.cell (p := ⟨b, o + k * 5 + 2, none⟩) hb).trans c2
      have c3 := (bel.cell (p := ⟨b, o + k * 5 + 3, none⟩) hb).trans c3
      have c4 := (bel.cell (p := ⟨b, o + k * 5 + 4, none⟩) hb).trans c4
      have HD := Lib.hid (drop_cons' hx)
      have pb := popsM_bd x.k
      have HX := Lib.hid hx
      obtain ⟨ok, vk, vn, vs, nm⟩ := x
      simp only at c0 c1 c2 c3 c4 hs1 hs2 pb
      clear hx
      have HLI := Lib.hid (fun w1 => litFault_any vk vn vs w1 hs1)
      have HNA := Lib.hid (fun w1 => nameFault_any nm w1 hs2)
      obtain ⟨pb0, pb1⟩ := pb
      have pp1 : popsM 1 = 0 := by decide
      have pp2 : popsM 2 = 0 := by decide
      have EQ : Hid (∀ v, stepM ⟨ok, vk, vn, vs, nm⟩ hi = v → v ≠ 0 → exprM l = v) := Lib.hid (fun v h1 h2 => by rw [HE.out, HD.out, exprFrom, h1, if_pos h2])
      have EZ : Hid (∀ h', stepM ⟨ok, vk, vn, vs, nm⟩ hi = 0 → hi + 1 - popsM ok = h' → exprM l = exprFrom (l.drop (k + 1)) h') := Lib.hid (fun h' h1 h2 => by rw [HE.out, HD.out, exprFrom, h1, if_neg (by simp), h2])
      clear HE HX HD
      by_cases r : 1 ≤ ok ∧ ok ≤ 11
      · obtain ⟨r1, r2⟩ := r
        have rd : (decide (1 ≤ ok) && decide (ok ≤ 11)) = true := by simp; omega
        go_wp2_with (first
          | (go_at_call 73; refine (HLI.out _).mono ?_; rintro e w1 ⟨rfl, hb⟩; have hz := hb.size; (try simp only [World.size_alloc, World.size_setCell, World.size_drew, size_drewN] at hz); (try (have zw1_0 : wr.heap.size < w1.heap.size := (by omega))); (try (have cw1_0 := fun o => hb.cell (p := ⟨wr.heap.size, o, none⟩) (by (try simp only [World.size_alloc, World.size_setCell, World.size_drew, size_drewN]); omega))); (try (have fw1_0 := fun o => hb.frozen (p := ⟨wr.heap.size, o, none⟩) (by (try simp only [World.size_alloc, World.size_setCell, World.size_drew, size_drewN]); omega))); have hb1 := hb)
          | (go_at_call 37; refine (HNA.out _).mono ?_; rintro e w2 ⟨rfl, hb⟩; have hz := hb.size; (try simp only [World.size_alloc, World.size_setCell, World.size_drew, size_drewN] at hz); (try (have zw2_0 : wr.heap.size < w2.heap.size := (by omega))); (try (have cw2_0 := fun o => hb.cell (p := ⟨wr.heap.size, o, none⟩) (by (try simp only [World.size_alloc, World.size_setCell, World.size_drew, size_drewN]); omega))); (try (have fw2_0 := fun o => hb.frozen (p := ⟨wr.heap.size, o, none⟩) (by (try simp only [World.size_alloc, World.size_setCell, World.size_drew, size_drewN]); omega))); have hb2 := hb)
          | (go_at_call 56; refine (works_any _ _).mono ?_; rintro e w1 ⟨rfl, rfl⟩)
          | (go_at_call 36; refine (in_any _ _ _ _).mono ?_; rintro e w1 ⟨rfl, rfl⟩))
        all_goals first
          | (go_ret
             go_light
             refine ⟨?_, by (repeat' (first | (with_reducible exact Below.refl _ _) | (with_reducible assumption) | (with_reducible refine Below.alloc ?_ ?_ _) | (with_reducible refine Below.drew ?_) | (with_reducible refine below_drewN ?_) | (with_reducible refine Below.setCell ?_ ?_ _) | (with_reducible refine below_step ?_ ?_ (by with_reducible assumption)) | go_size))⟩
             have EQ := EQ.out
             clear EZ HNA HLI HB HL HS EM
             first
               | (refine ret_eq (EQ 2 (step_out _ _ ?_) (by decide)); show ok < 1 ∨ 11 < ok; omega)
               | (refine ret_eq (EQ 6 ?_ (by decide)); rw [step_in _ _ (show 1 ≤ ok by omega) (show ok ≤ 11 by omega)]; simp_all [zeroV]; done)
               | (refine ret_eq (EQ _ ?_ ?_) <;> (try rw [step_in _ _ (show 1 ≤ ok by omega) (show ok ≤ 11 by omega)]) <;> simp_all <;> done)
               | (refine ret_eq (EQ (nameM nm) ?_ ?_) <;> (try rw [step_in _ _ (show 1 ≤ ok by omega) (show ok ≤ 11 by omega)]) <;> simp_all [zeroV] <;> done)
               | (refine ret_eq (EQ 7 ?_ (by decide)); rw [step_in _ _ (show 1 ≤ ok by omega) (show ok ≤ 11 by omega)]; simp_all [zeroV]; done))
          | (go_roundw
             case rel =>
               go_light
               refine ⟨k + 1, _, by omega, by go_num, rfl, ?_, ?_, ?_, ?_⟩
               · first | omega | (simp_all; done) | (simp_all; omega)
               · first | omega | (simp_all; done) | (simp_all; omega)
               · have EZ := EZ.out
                 refine Lib.hid (EZ _ ?_ ?_)
                 · clear EZ HNA HLI HB HL HS EM EQ; rw [step_in _ _ (show 1 ≤ ok by omega) (show ok ≤ 11 by omega)]; simp_all [zeroV]; try omega
                 · first | omega | (simp_all; done) | (simp_all; omega)
               · exact Lib.hid (by (repeat' (first | (with_reducible exact Below.refl _ _) | (with_reducible assumption) | (with_reducible refine Below.alloc ?_ ?_ _) | (with_reducible refine Below.drew ?_) | (with_reducible refine below_drewN ?_) | (with_reducible refine Below.setCell ?_ ?_ _) | (with_reducible refine below_step ?_ ?_ (by with_reducible assumption)) | go_size)))
             case measure => simp [intOf]; omega)
      · have rd : (decide (1 ≤ ok) && decide (ok ≤ 11)) = false := by simp; omega
        have R := Lib.hid r
        clear r
        go_wp2_with (go_at_call 36; refine (in_any _ _ _ _).mono ?_; rintro e w1 ⟨rfl, rfl⟩)
        go_ret
        go_light
        exact ⟨ret_eq (EQ.out 2 (step_out _ _ (by show ok < 1 ∨ 11 < ok; have := R.out; omega)) (by decide)), by (repeat' (first | (with_reducible exact Below.refl _ _) | (with_reducible assumption) | (with_reducible refine Below.alloc ?_ ?_ _) | (with_reducible refine Below.drew ?_) | (with_reducible refine below_drewN ?_) | (with_reducible refine Below.setCell ?_ ?_ _) | (with_reducible refine below_step ?_ ?_ (by with_reducible assumption)) | go_size))⟩
    · obtain rfl : k = l.length := by omega
      have HE' : exprM l = if hi ≠ 1 then 7 else 0 := by rw [HE.out, List.drop_length]; rfl
      have HE2 := Lib.hid HE'
      clear HE' HE
      by_cases h1 : hi = 1
      · have h2 : (hi != 1) = false := by simpa using h1
        have HR : Hid (exprM l = 0) := Lib.hid (by rw [HE2.out, if_neg (fun n => n h1)])
        clear h1
        go_wp2
        go_ret
        go_light
        exact ⟨by rw [HR.out]; rfl, HB.out⟩
      · have h2 : (hi != 1) = true := by simpa using h1
        have HR : Hid (exprM l = 7) := Lib.hid (by rw [HE2.out, if_pos h1])
        clear h1
        go_wp2
        go_ret
        go_light
        exact ⟨by rw [HR.out]; rfl, HB.out⟩
end Go.Proofs.YtoecmmpjndcolaaDoor
