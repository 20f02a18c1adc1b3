/- The reference's aheadOf and waitsFor. -/
import Derived.Test.YtkehmidldcggcaaDoorLh
set_option linter.unusedSimpArgs false
set_option linter.unusedVariables false
namespace Go.Proofs.YtkehmidldcggcaaDoor
open Go.RowKit Go.Joins
def sameT (q h : LK) : Bool := h.s.toList == q.s.toList
def ahM (q : LK) (l : List LK) : List Int := (l.filter (sameT q)).map (·.t)
theorem ahM_succ (q : LK) (l : List LK) (k : Nat) (h : LK) (hh : l[k]? = some h) : ahM q (l.take (k + 1)) = ahM q (l.take k) ++ (if sameT q h = true then [h.t] else []) := by
  unfold ahM
  rw [List.take_add_one, hh]
  simp only [Option.toList_some, List.filter_append, List.map_append]
  congr 1
  cases e : sameT q h <;> simp [List.filter, e]
theorem ahM_len (q : LK) (l : List LK) : (ahM q l).length ≤ l.length := by unfold ahM; rw [List.length_map]; exact List.length_filter_le _ _
set_option maxRecDepth 100000 in
set_option maxHeartbeats 2000000 in
theorem aheadOf_any (a1 a : Option Addr) (n1 p1 : Nat) (l : List LK) (cap : Nat) (i : Nat) (q : LK) (w : World) (hl : LksAt w a l) (hn : l.length ≤ 2097152) (hi : l[i]? = some q) :
    Calls Tryd.prog 60 #[.agg #[.slice a1 n1 p1, .slice a l.length cap], .int .i64 i] w fun e w' => (∃ v, e = .returned v ∧ w'.ownsRow w.heap.size 3 1 v (ahM q (l.take i)).length (intsV (ahM q (l.take i)))) ∧ Below w.heap.size w w' := by
  obtain ⟨i0, hi0, hz0, hz1, hz2⟩ := info_parts infoInt
  have hil : i < l.length := (List.getElem?_eq_some_iff.1 hi).1
  obtain ⟨b, o, rfl, hb, -, r1, -⟩ := hl.at hi
  have HL := Lib.hid hl
  have QI := Lib.hid hi
  obtain ⟨qt, qs, qm⟩ := q
  simp only at r1
  clear hl hi
  go_enter Tryd.func60, Tryd.ntmps60
  go_wp2
  go_loopw [5, 6] (fun v j wr => ∃ k : Nat, k ≤ i ∧ j = .int .i64 k ∧ Hid (wr.heap[w.heap.size]? = some (.cells #[.slice a1 n1 p1, .slice (some ⟨b, o, none⟩) l.length cap] 30 (0, 0)) ∧
      wr.ownsRow (w.heap.size + 1) 3 1 v (ahM ⟨qt, qs, qm⟩ (l.take k)).length (intsV (ahM ⟨qt, qs, qm⟩ (l.take k))) ∧ Below w.heap.size w wr ∧ w.heap.size + 1 ≤ wr.heap.size)) (fun _ j _ => i - (intOf j).toNat)
  case atStart =>
    exact ⟨0, by omega, rfl, Lib.hid ⟨new_at _ _ _ rfl, by simpa [ahM, intsV] using World.ownsRow_nil _ _ _ _, Joins.below_alloc1 _ _, by simp⟩⟩
  case round =>
    obtain ⟨k, hk, rfl, HI⟩ := hrel
    by_cases hlt : k < i
    · obtain ⟨h, hx⟩ : ∃ h, l[k]? = some h := ⟨l[k], by simp [show k < l.length by omega]⟩
      obtain ⟨b0, own, bel, sz⟩ := HI.out
      obtain ⟨b', o', hbo, hb', c0, c1, c2⟩ := HL.out.at hx
      simp only [Option.some.injEq, Addr.mk.injEq, and_true] at hbo
      obtain ⟨rfl, rfl⟩ := hbo
      have AS := Lib.hid (ahM_succ ⟨qt, qs, qm⟩ l k h hx)
      have AL := Lib.hid (ahM_len ⟨qt, qs, qm⟩ (l.take k))
      obtain ⟨ht, hs, hm⟩ := h
      simp only at c0 c1 c2
      have c0 := (bel.cell (p := ⟨b, o + k * 3, none⟩) hb).trans c0
      have c1 := (bel.cell (p := ⟨b, o + k * 3 + 1, none⟩) hb).trans c1
      have r1' := (bel.cell (p := ⟨b, o + i * 3 + 1, none⟩) hb).trans r1
      have k1 := cell_of_block b0 1
      simp at k1
      have i1 : (0 : Int) ≤ (k : Int) := by omega
      have i2 : (k : Int) < (l.length : Int) := by omega
      have i3 : (0 : Int) ≤ (i : Int) := by omega
      have i4 : (i : Int) < (l.length : Int) := by omega
      have OW := Lib.hid own
      have B0 := Lib.hid b0
      have BE := Lib.hid bel
      clear own b0 bel hx HI c2 hb'
      cases e1 : (hs.toList == qs.toList)
      · go_wp2
        go_quiet (fail)
        go_wp2
        go_roundw
        case rel => exact ⟨k + 1, by omega, by go_num, Lib.hid ⟨B0.out, by rw [AS.out, if_neg (by simp [sameT, e1]), List.append_nil]; exact OW.out, below_drewN BE.out, sz⟩⟩
        case measure => simp [intOf]; omega
      · go_wp2
        go_quiet (fail)
        have hag : sameT ⟨qt, qs, qm⟩ ⟨ht, hs, hm⟩ = true := by simp only [sameT, e1]
        generalize hq : wr.drewN nq = wq
        have hh : wq.heap = wr.heap := by rw [← hq]; rfl
        have BQ : Hid (Below w.heap.size w wq) := by rw [← hq]; exact below_drewN BE.out
        have own' := own_kept (w' := wq) OW.out (fun g _ => by rw [hh])
        have c0' : wq.cell? ⟨b, o + k * 3, none⟩ = some (.int .i64 ht) := (World.cell?_of_block (by rw [hh])).trans c0
        have B0' : Hid (wq.heap[w.heap.size]? = some (.cells #[.slice a1 n1 p1, .slice (some ⟨b, o, none⟩) l.length cap] 30 (0, 0))) := by rw [hh]; exact B0
        have k1' := cell_of_block B0'.out 1
        simp at k1'
        have sz' : w.heap.size + 1 ≤ wq.heap.size := by rw [hh]; exact sz
        have OQ := Lib.hid own'
        have al := AL.out
        have tl := List.length_take_le k l
        clear hq hh own' c0 c1 k1 OW BE B0 r1'
        go_wp2_with (at_builtin; refine wpList_append_lies _ rfl (.tmp 25) (.tmp 32) 40 rfl (w.heap.size + 1) 3 i0 _ 1 8 Tryd.underlying40 hi0 hz0 hz1 hz2 rfl (by decide) _ _ _ rfl (OQ.out.alloc _) ⟨wq.heap.size, 0, none⟩ 1 1 [.int .i64 ht] rfl rfl (World.news_of_block (cs := #[.int .i64 ht]) (t := 3) (fr := (0, 0)) (heap_alloc_new wq _)) (by simp [Value.oneCell']) (by omega) (by unfold maxLen; omega) (by omega) (by simp; omega) (wq.heap.size + 1) (by simp) ?_; intro g gcap w1 hown1 hgrow hat hlt'; have HO := Lib.hid hown1; have HG := Lib.hid hgrow; clear hown1 hgrow hat)
        go_roundw
        case rel =>
          have hs := HG.out.size
          simp at hs
          refine ⟨k + 1, by omega, by go_num, Lib.hid ⟨?_, ?_, ?_, by omega⟩⟩
          · refine (HG.out.block _ (by simp; omega) (Ne.symm (own_ne OQ.out (by omega)))).trans ?_
            exact (Below.heap_alloc _ _ _ (by omega)).trans B0'
          · rw [AS.out, if_pos hag, List.length_append]
            have e : intsV (ahM ⟨qt, qs, qm⟩ (l.take k) ++ [ht]) = intsV (ahM ⟨qt, qs, qm⟩ (l.take k)) ++ [.int .i64 ht] := by simp [intsV]
            rw [e]
            exact HO.out
          · refine (BQ.alloc (by omega) _).grown HG.out (by simp; omega) ?_
            intro g' hg'
            have := (own_lt OQ.out hg').1
            omega
        case measure => simp [intOf]; omega
    · obtain rfl : k = i := by omega
      obtain ⟨b0, own, bel, sz⟩ := HI.out
      go_wp2
      go_ret
      exact ⟨⟨_, rfl, ownsRow_le own (by omega)⟩, bel⟩
end Go.Proofs.YtkehmidldcggcaaDoor
