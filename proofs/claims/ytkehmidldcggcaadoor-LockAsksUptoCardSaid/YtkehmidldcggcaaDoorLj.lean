/- The reference's waitsFor. -/
import Derived.Test.YtkehmidldcggcaaDoorLi
import Derived.Laws.AppendOwnNone
set_option linter.unusedSimpArgs false
set_option linter.unusedVariables false
namespace Go.Proofs.YtkehmidldcggcaaDoor
open Go.RowKit
def wfM (l1 l2 : List LK) (i : Nat) (q : LK) : List Int := agM q l1 ++ (if modeM q.t q.s l1 = 0 then ahM q (l2.take i) else [])
theorem own_news {w : World} {base n g cap : Nat} {l : List Int} (h : w.ownsRow base 3 1 (.slice (some ⟨g, 0, none⟩) n cap) n (intsV l)) : ∀ j u, (intsV l)[j]? = some u → w.cell? ((⟨g, 0, none⟩ : Addr).add j) = some u := by
  intro j u hj
  have h2 := h.cellAt j (by have := h.1; have h3 := (List.getElem?_eq_some_iff.1 hj).1; omega)
  have e : (⟨g, 0, none⟩ : Addr).add j = ⟨g, j, none⟩ := by unfold Addr.add; split <;> simp_all
  rw [e, h2, hj]
theorem intsV_one (l : List Int) : ∀ u ∈ intsV l, u.oneCell' = true := by
  intro u hu
  obtain ⟨n, _, rfl⟩ := List.mem_map.1 hu
  rfl
set_option maxRecDepth 100000 in
set_option maxHeartbeats 2000000 in
theorem waitsFor_any (a1 a2 : Option Addr) (l1 l2 : List LK) (p1 p2 : Nat) (i : Nat) (q : LK) (w : World) (h1 : LksAt w a1 l1) (h2 : LksAt w a2 l2) (n1 : l1.length ≤ 2097152) (n2 : l2.length ≤ 2097152) (hi : l2[i]? = some q) :
    Calls Tryd.prog 42 #[.agg #[.slice a1 l1.length p1, .slice a2 l2.length p2], .int .i64 i] w fun e w' => (∃ v, e = .returned v ∧ w'.ownsRow w.heap.size 3 1 v (wfM l1 l2 i q).length (intsV (wfM l1 l2 i q))) ∧ Below w.heap.size w w' := by
  obtain ⟨i0, hi0, hz0, hz1, hz2⟩ := info_parts infoInt
  have hil : i < l2.length := (List.getElem?_eq_some_iff.1 hi).1
  obtain ⟨b, o, rfl, hb, r0, r1, r2⟩ := h2.at hi
  have H1 := Lib.hid h1
  have H2 := Lib.hid h2
  have QI := Lib.hid hi
  obtain ⟨qt, qs, qm⟩ := q
  simp only at r0 r1 r2
  have i3 : (0 : Int) ≤ (i : Int) := by omega
  have i4 : (i : Int) < (l2.length : Int) := by omega
  have r0 := fun x => ((Joins.below_alloc1 w x).cell (p := ⟨b, o + i * 3, none⟩) hb).trans r0
  have r1 := fun x => ((Joins.below_alloc1 w x).cell (p := ⟨b, o + i * 3 + 1, none⟩) hb).trans r1
  have r2 := fun x => ((Joins.below_alloc1 w x).cell (p := ⟨b, o + i * 3 + 2, none⟩) hb).trans r2
  have B2 : Hid (∀ x y, Below w.heap.size w ((w.alloc x).alloc y)) := fun x y => Joins.below_alloc2 w x y
  clear h1 h2 hi
  by_cases hm : modeM qt qs l1 = 0
  · have hm' : (modeM qt qs l1 == 0) = true := by simp [hm]
    go_enter Tryd.func42, Tryd.ntmps42
    go_wp2_with (first
      | (at_builtin; rcases Joins.ownsRow_forms O2.out with ⟨rfl, hv⟩ | ⟨g2, cap2, rfl⟩ <;> (first
          | (refine wpList_append_own_none rfl (.tmp 24) (.tmp 27) 40 rfl _ 3 i0 1 Tryd.underlying40 hi0 _ _ _ rfl O3.out rfl ?_)
          | (refine wpList_append_own _ rfl (.tmp 24) (.tmp 27) 40 rfl _ 3 i0 (.int .i64 0) 1 8 Tryd.underlying40 hi0 hz0 hz1 hz2 rfl (by decide) _ _ _ rfl O3.out ⟨g2, 0, none⟩ _ cap2 _ rfl (by simp [intsV]) (own_news O2.out) (intsV_one _) ?m1 ?m2 ?base ?_)))
      | (go_at_call 41; refine (against_any _ l1 _ ⟨qt, qs, qm⟩ _ (H1.out.below (B2.out _ _) (Nat.le_refl _)) n1).mono ?_; rintro e w1 ⟨⟨v1, rfl, own1⟩, hb⟩; have hz := hb.size; (try simp only [World.size_alloc, World.size_setCell, World.size_drew, size_drewN] at hz); (try (have zw1_0 : w.heap.size < w1.heap.size := (by omega))); (try (have cw1_0 := fun o => hb.cell (p := ⟨w.heap.size, o, none⟩) (by (try simp only [World.size_alloc, World.size_setCell, World.size_drew, size_drewN]); omega))); (try (have fw1_0 := fun o => hb.frozen (p := ⟨w.heap.size, o, none⟩) (by (try simp only [World.size_alloc, World.size_setCell, World.size_drew, size_drewN]); omega))); (try (have zw1_1 : w.heap.size + 1 < w1.heap.size := (by omega))); (try (have cw1_1 := fun o => hb.cell (p := ⟨w.heap.size + 1, o, none⟩) (by (try simp only [World.size_alloc, World.size_setCell, World.size_drew, size_drewN]); omega))); (try (have fw1_1 := fun o => hb.frozen (p := ⟨w.heap.size + 1, o, none⟩) (by (try simp only [World.size_alloc, World.size_setCell, World.size_drew, size_drewN]); omega))); have O1 := Lib.hid own1; have L1 := Lib.hid (H1.out.below ((B2.out _ _).trans (hb.mono (by simp; omega))) (Nat.le_refl _)); have L2 := Lib.hid (H2.out.below ((B2.out _ _).trans (hb.mono (by simp; omega))) (Nat.le_refl _)); clear own1)
      | (go_at_call 40; refine (modeOf_any _ l1 _ qt qs _ L1.out (by omega)).mono ?_; rintro e w1 ⟨rfl, rfl⟩)
      | (go_at_call 60; refine (aheadOf_any _ _ _ _ l2 _ i ⟨qt, qs, qm⟩ _ L2.out n2 QI.out).mono ?_; rintro e w2 ⟨⟨v2, rfl, own2⟩, hb⟩; have hz := hb.size; (try simp only [World.size_alloc, World.size_setCell, World.size_drew, size_drewN] at hz); (try (have zw2_0 : w.heap.size < w2.heap.size := (by omega))); (try (have cw2_0 := fun o => hb.cell (p := ⟨w.heap.size, o, none⟩) (by (try simp only [World.size_alloc, World.size_setCell, World.size_drew, size_drewN]); omega))); (try (have fw2_0 := fun o => hb.frozen (p := ⟨w.heap.size, o, none⟩) (by (try simp only [World.size_alloc, World.size_setCell, World.size_drew, size_drewN]); omega))); (try (have zw2_1 : w.heap.size + 1 < w2.heap.size := (by omega))); (try (have cw2_1 := fun o => hb.cell (p := ⟨w.heap.size + 1, o, none⟩) (by (try simp only [World.size_alloc, World.size_setCell, World.size_drew, size_drewN]); omega))); (try (have fw2_1 := fun o => hb.frozen (p := ⟨w.heap.size + 1, o, none⟩) (by (try simp only [World.size_alloc, World.size_setCell, World.size_drew, size_drewN]); omega))); have O2 := Lib.hid own2; have O3 := Lib.hid (own_kept (w' := w2) O1.out (fun g hg => hb.block g (own_lt O1.out hg).2)); clear own2))
    case m1 =>
      have a1 := agM_len ⟨qt, qs, qm⟩ l1
      have a2 := ahM_len ⟨qt, qs, qm⟩ (l2.take i)
      have a3 := List.length_take_le i l2
      unfold maxLen
      omega
    case m2 =>
      have a1 := agM_len ⟨qt, qs, qm⟩ l1
      have a2 := ahM_len ⟨qt, qs, qm⟩ (l2.take i)
      have a3 := List.length_take_le i l2
      omega
    case base => simp; omega
    case inr =>
      intro v3 w3 own3 grow3 _
      have O4 := Lib.hid own3
      have G3 := Lib.hid grow3
      have hz3 := grow3.size
      clear own3 grow3
      go_wp2
      go_ret
      refine ⟨⟨_, rfl, ?_⟩, ?_⟩
      · rw [wfM, if_pos hm, List.length_append]
        have e : intsV (agM ⟨qt, qs, qm⟩ l1 ++ ahM ⟨qt, qs, qm⟩ (l2.take i)) = intsV (agM ⟨qt, qs, qm⟩ l1) ++ intsV (ahM ⟨qt, qs, qm⟩ (l2.take i)) := by simp [intsV]
        rw [e]
        exact Joins.ownsRow_le O4.out (by omega)
      · refine Below.grown (w := w2) (by (repeat' (first | (with_reducible exact Below.refl _ _) | (with_reducible assumption) | (with_reducible refine Below.alloc ?_ ?_ _) | (with_reducible refine Below.drew ?_) | (with_reducible refine below_drewN ?_) | (with_reducible refine Below.setCell ?_ ?_ _) | (with_reducible refine below_step ?_ ?_ (by with_reducible assumption)) | go_size))) G3.out (by omega) ?_
        intro g' hg'
        have := (own_lt O3.out hg').1
        simp at this
        omega
    · go_ret
      have e0 : intsV (ahM ⟨qt, qs, qm⟩ (l2.take i)) = [] := List.length_eq_zero_iff.1 (by simpa [intsV] using hv)
      have e1 : ahM ⟨qt, qs, qm⟩ (l2.take i) = [] := by simpa [intsV] using e0
      refine ⟨⟨_, rfl, ?_⟩, ?_⟩
      · rw [wfM, if_pos hm, e1, List.append_nil]
        exact Joins.ownsRow_le O3.out (by simp; omega)
      · (repeat' (first | (with_reducible exact Below.refl _ _) | (with_reducible assumption) | (with_reducible refine Below.alloc ?_ ?_ _) | (with_reducible refine Below.drew ?_) | (with_reducible refine below_drewN ?_) | (with_reducible refine Below.setCell ?_ ?_ _) | (with_reducible refine below_step ?_ ?_ (by with_reducible assumption)) | go_size))
  · have hm' : (modeM qt qs l1 == 0) = false := by simp [hm]
    go_enter Tryd.func42, Tryd.ntmps42
    go_wp2_with (first
      | (go_at_call 41; refine (against_any _ l1 _ ⟨qt, qs, qm⟩ _ (H1.out.below (B2.out _ _) (Nat.le_refl _)) n1).mono ?_; rintro e w1 ⟨⟨v1, rfl, own1⟩, hb⟩; have hz := hb.size; (try simp only [World.size_alloc, World.size_setCell, World.size_drew, size_drewN] at hz); (try (have zw1_0 : w.heap.size < w1.heap.size := (by omega))); (try (have cw1_0 := fun o => hb.cell (p := ⟨w.heap.size, o, none⟩) (by (try simp only [World.size_alloc, World.size_setCell, World.size_drew, size_drewN]); omega))); (try (have fw1_0 := fun o => hb.frozen (p := ⟨w.heap.size, o, none⟩) (by (try simp only [World.size_alloc, World.size_setCell, World.size_drew, size_drewN]); omega))); (try (have zw1_1 : w.heap.size + 1 < w1.heap.size := (by omega))); (try (have cw1_1 := fun o => hb.cell (p := ⟨w.heap.size + 1, o, none⟩) (by (try simp only [World.size_alloc, World.size_setCell, World.size_drew, size_drewN]); omega))); (try (have fw1_1 := fun o => hb.frozen (p := ⟨w.heap.size + 1, o, none⟩) (by (try simp only [World.size_alloc, World.size_setCell, World.size_drew, size_drewN]); omega))); have O1 := Lib.hid own1; have L1 := Lib.hid (H1.out.below ((B2.out _ _).trans (hb.mono (by simp; omega))) (Nat.le_refl _)); clear own1)
      | (go_at_call 40; refine (modeOf_any _ l1 _ qt qs _ L1.out (by omega)).mono ?_; rintro e w1 ⟨rfl, rfl⟩))
    go_ret
    refine ⟨⟨_, rfl, ?_⟩, ?_⟩
    · rw [wfM, if_neg hm, List.append_nil]
      exact Joins.ownsRow_le O1.out (by simp; omega)
    · (repeat' (first | (with_reducible exact Below.refl _ _) | (with_reducible assumption) | (with_reducible refine Below.alloc ?_ ?_ _) | (with_reducible refine Below.drew ?_) | (with_reducible refine below_drewN ?_) | (with_reducible refine Below.setCell ?_ ?_ _) | (with_reducible refine below_step ?_ ?_ (by with_reducible assumption)) | go_size))
theorem waitsFor_at (a1 a2 : Option Addr) (l1 l2 : List LK) (m1 m2 p1 p2 : Nat) (i : Nat) (q : LK) (w : World) (e1 : l1.length = m1) (e2 : l2.length = m2) (h1 : LksAt w a1 l1) (h2 : LksAt w a2 l2) (n1 : m1 ≤ 2097152) (n2 : m2 ≤ 2097152) (hi : l2[i]? = some q) :
    Calls Tryd.prog 42 #[.agg #[.slice a1 m1 p1, .slice a2 m2 p2], .int .i64 i] w fun e w' => (∃ v, e = .returned v ∧ w'.ownsRow w.heap.size 3 1 v (wfM l1 l2 i q).length (intsV (wfM l1 l2 i q))) ∧ Below w.heap.size w w' := by
  subst e1; subst e2; exact waitsFor_any a1 a2 l1 l2 p1 p2 i q w h1 h2 n1 n2 hi
end Go.Proofs.YtkehmidldcggcaaDoor
