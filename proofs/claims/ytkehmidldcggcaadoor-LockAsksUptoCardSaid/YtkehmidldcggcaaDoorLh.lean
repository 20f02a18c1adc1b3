/- The reference's against: those whose locks do not go with one, in order. -/
import Derived.Test.YtkehmidldcggcaaDoorLg
import Derived.Deep.QuietTactic
import Derived.BigQuiet
set_option linter.unusedSimpArgs false
set_option linter.unusedVariables false
namespace Go.Proofs.YtkehmidldcggcaaDoor
open Go.RowKit Go.Joins
theorem infoInt : (Tryd.prog.info? 3).map (fun i => (i.zero, i.size, i.bytes)) = some (some (.int .i64 0), 1, 8) := by kernel_rfl
def agR (x h : LK) : Bool := h.s.toList == x.s.toList && h.t != x.t && !fittingM h.m x.m
def intsV (l : List Int) : List Value := l.map (Value.int .i64)
def agM (x : LK) (l : List LK) : List Int := (l.filter (agR x)).map (·.t)
theorem agM_succ (x : LK) (l : List LK) (k : Nat) (h : LK) (hh : l[k]? = some h) : agM x (l.take (k + 1)) = agM x (l.take k) ++ (if agR x h = true then [h.t] else []) := by
  unfold agM
  rw [List.take_add_one, hh]
  simp only [Option.toList_some, List.filter_append, List.map_append]
  congr 1
  cases e : agR x h <;> simp [List.filter, e]
theorem agM_len (x : LK) (l : List LK) : (agM x l).length ≤ l.length := by unfold agM; rw [List.length_map]; exact List.length_filter_le _ _
set_option maxRecDepth 100000 in
set_option maxHeartbeats 2000000 in
theorem against_any (a : Option Addr) (l : List LK) (cap : Nat) (x : LK) (w : World) (hl : LksAt w a l) (hn : l.length ≤ 2097152) :
    Calls Tryd.prog 41 #[.slice a l.length cap, .agg #[.int .i64 x.t, .string x.s, .int .i64 x.m]] w fun e w' => (∃ v, e = .returned v ∧ w'.ownsRow w.heap.size 3 1 v (agM x l).length (intsV (agM x l))) ∧ Below w.heap.size w w' := by
  obtain ⟨i0, hi0, hz0, hz1, hz2⟩ := info_parts infoInt
  have HL := Lib.hid hl
  obtain ⟨xt, xs, xm⟩ := x
  clear hl
  go_enter Tryd.func41, Tryd.ntmps41
  go_wp2
  go_loopw [5, 6] (fun v i wr => ∃ k : Nat, k ≤ l.length ∧ i = .int .i64 k ∧ Hid (wr.heap[w.heap.size]? = some (.cells #[.int .i64 xt, .string xs, .int .i64 xm] 36 (0, 0)) ∧
      wr.ownsRow (w.heap.size + 1) 3 1 v (agM ⟨xt, xs, xm⟩ (l.take k)).length (intsV (agM ⟨xt, xs, xm⟩ (l.take k))) ∧ Below w.heap.size w wr ∧ w.heap.size + 1 ≤ wr.heap.size)) (fun _ i _ => l.length - (intOf i).toNat)
  case atStart =>
    exact ⟨0, by omega, rfl, Lib.hid ⟨new_at _ _ _ rfl, by simpa [agM, intsV] using World.ownsRow_nil _ _ _ _, Joins.below_alloc1 _ _, by simp⟩⟩
  case round =>
    obtain ⟨k, hk, rfl, HI⟩ := hrel
    by_cases hlt : k < l.length
    · obtain ⟨h, hx⟩ : ∃ h, l[k]? = some h := ⟨l[k], by simp [hlt]⟩
      obtain ⟨b0, own, bel, sz⟩ := HI.out
      obtain ⟨b, o, rfl, hb, c0, c1, c2⟩ := HL.out.at hx
      have AS := Lib.hid (agM_succ ⟨xt, xs, xm⟩ l k h hx)
      have AL := Lib.hid (agM_len ⟨xt, xs, xm⟩ (l.take k))
      have TL := List.length_take_le k l
      obtain ⟨ht, hs, hm⟩ := h
      simp only at c0 c1 c2
      have c0 := (bel.cell (p := ⟨b, o + k * 3, none⟩) hb).trans c0
      have c1 := (bel.cell (p := ⟨b, o + k * 3 + 1, none⟩) hb).trans c1
      have c2 := (bel.cell (p := ⟨b, o + k * 3 + 2, none⟩) hb).trans c2
      have k0 := cell_of_block b0 0
      have k1 := cell_of_block b0 1
      have k2 := cell_of_block b0 2
      simp at k0 k1 k2
      have i1 : (0 : Int) ≤ (k : Int) := by omega
      have i2 : (k : Int) < (l.length : Int) := by omega
      have OW := Lib.hid own
      have B0 := Lib.hid b0
      have BE := Lib.hid bel
      clear own b0 bel hx TL HI
      cases e1 : (hs.toList == xs.toList)
      · go_wp2
        go_quiet (first | (go_at_call 30; exact Calls.quiet_of_same ((fitting_any _ _ _).mono fun _ _ h => ⟨h.1, h.2.symm⟩)))
        go_wp2
        go_roundw
        case rel => exact ⟨k + 1, by omega, by go_num, Lib.hid ⟨B0.out, by rw [AS.out, if_neg (by simp [agR, e1]), List.append_nil]; exact OW.out, below_drewN BE.out, sz⟩⟩
        case measure => simp [intOf]; omega
      cases e2 : (ht != xt)
      · go_wp2
        go_quiet (first | (go_at_call 30; exact Calls.quiet_of_same ((fitting_any _ _ _).mono fun _ _ h => ⟨h.1, h.2.symm⟩)))
        go_wp2
        go_roundw
        case rel => exact ⟨k + 1, by omega, by go_num, Lib.hid ⟨B0.out, by rw [AS.out, if_neg (by simp [agR, e2]), List.append_nil]; exact OW.out, below_drewN BE.out, sz⟩⟩
        case measure => simp [intOf]; omega
      cases e3 : fittingM hm xm
      · go_wp2
        go_quiet (first | (go_at_call 30; exact Calls.quiet_of_same ((fitting_any _ _ _).mono fun _ _ h => ⟨h.1, h.2.symm⟩)))
        have hag : agR ⟨xt, xs, xm⟩ ⟨ht, hs, hm⟩ = true := by simp only [agR, e1, e2, e3]; rfl
        generalize hq : wr.drewN nq = wq
        have hh : wq.heap = wr.heap := by rw [← hq]; rfl
        have BQ : Hid (Below w.heap.size w wq) := by rw [← hq]; exact below_drewN BE.out
        have own' := own_kept (w' := wq) OW.out (fun g _ => by rw [hh])
        have c0' : wq.cell? ⟨b, o + k * 3, none⟩ = some (.int .i64 ht) := (World.cell?_of_block (by rw [hh])).trans c0
        have B0' : Hid (wq.heap[w.heap.size]? = some (.cells #[.int .i64 xt, .string xs, .int .i64 xm] 36 (0, 0))) := by rw [hh]; exact B0
        have sz' : w.heap.size + 1 ≤ wq.heap.size := by rw [hh]; exact sz
        have OQ := Lib.hid own'
        have al := AL.out
        have tl := List.length_take_le k l
        clear hq hh own' c0 c1 c2 k0 k1 k2 OW BE B0
        go_wp2_with (at_builtin; refine wpList_append_lies _ rfl (.tmp 42) (.tmp 48) 40 rfl (w.heap.size + 1) 3 i0 _ 1 8 Tryd.underlying40 hi0 hz0 hz1 hz2 rfl (by decide) _ _ _ rfl (OQ.out.alloc _) ⟨wq.heap.size, 0, none⟩ 1 1 [.int .i64 ht] rfl rfl (World.news_of_block (cs := #[.int .i64 ht]) (t := 3) (fr := (0, 0)) (heap_alloc_new wq _)) (by simp [Value.oneCell']) (by omega) (by unfold maxLen; omega) (by omega) (by simp; omega) (wq.heap.size + 1) (by simp) ?_; intro g gcap w1 hown1 hgrow hat hlt'; have HO := Lib.hid hown1; have HG := Lib.hid hgrow; clear hown1 hgrow hat)
        go_roundw
        case rel =>
          have hs := HG.out.size
          simp at hs
          refine ⟨k + 1, by omega, by go_num, Lib.hid ⟨?_, ?_, ?_, by omega⟩⟩
          · refine (HG.out.block _ (by simp; omega) (Ne.symm (own_ne OQ.out (by omega)))).trans ?_
            exact (Below.heap_alloc _ _ _ (by omega)).trans B0'
          · rw [AS.out, if_pos hag, List.length_append]
            have e : intsV (agM ⟨xt, xs, xm⟩ (l.take k) ++ [ht]) = intsV (agM ⟨xt, xs, xm⟩ (l.take k)) ++ [.int .i64 ht] := by simp [intsV]
            rw [e]
            exact HO.out
          · refine (BQ.alloc (by omega) _).grown HG.out (by simp; omega) ?_
            intro g' hg'
            have := (own_lt OQ.out hg').1
            omega
        case measure => simp [intOf]; omega
      · go_wp2
        go_quiet (first | (go_at_call 30; exact Calls.quiet_of_same ((fitting_any _ _ _).mono fun _ _ h => ⟨h.1, h.2.symm⟩)))
        go_wp2
        go_roundw
        case rel => exact ⟨k + 1, by omega, by go_num, Lib.hid ⟨B0.out, by rw [AS.out, if_neg (by simp [agR, e3]), List.append_nil]; exact OW.out, below_drewN BE.out, sz⟩⟩
        case measure => simp [intOf]; omega
    · obtain rfl : k = l.length := by omega
      obtain ⟨b0, own, bel, sz⟩ := HI.out
      rw [List.take_length] at own
      go_wp2
      go_ret
      exact ⟨⟨_, rfl, ownsRow_le own (by omega)⟩, bel⟩
end Go.Proofs.YtkehmidldcggcaaDoor
