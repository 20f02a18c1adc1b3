/- The law Names: the constants are the document's: the whole program runs on its own literals. -/
import Derived.Test.YtbedhaagngomgaaVa
import Derived.Deep.QuietTactic
import Derived.BigQuiet
namespace Go.Proofs.Ytbedhaagngomgaa
open Go.RowKit
theorem infoInt : (Try.prog.info? 3).map (fun i => (i.zero, i.size, i.bytes)) = some (some (.int .i64 0), 1, 8) := by kernel_rfl
def namesL : List Int := [0, 1, 2, 3, 1, 2, 3, 4, 5, 6, 7, 8, 9, 10, 11, 1, 2, 3, 4, 5, 1, 2, 3, 4, 1, 2, 3, 4, 5, 6, 7, 8, 9, 20, 6, 100, 4, 4000, 1048576, 200, 120, 400, 100, 8, 4, 40, 40, 4, 20, 2000]
def e13 : List Value := [.int .i64 0, .int .i64 1, .int .i64 2, .int .i64 3, .int .i64 4, .int .i64 5, .int .i64 6, .int .i64 7, .int .i64 8, .int .i64 9, .int .i64 10, .int .i64 11, .int .i64 12]
def a33 : List Value := [.int .i64 0, .int .i64 1, .int .i64 2, .int .i64 3, .int .i64 1, .int .i64 2, .int .i64 3, .int .i64 4, .int .i64 5, .int .i64 6, .int .i64 7, .int .i64 8, .int .i64 9, .int .i64 10, .int .i64 11, .int .i64 1, .int .i64 2, .int .i64 3, .int .i64 4, .int .i64 5, .int .i64 1, .int .i64 2, .int .i64 3, .int .i64 4, .int .i64 1, .int .i64 2, .int .i64 3, .int .i64 4, .int .i64 5, .int .i64 6, .int .i64 7, .int .i64 8, .int .i64 9]
def b17 : List Value := [.int .i64 20, .int .i64 6, .int .i64 100, .int .i64 4, .int .i64 4000, .int .i64 1048576, .int .i64 200, .int .i64 120, .int .i64 400, .int .i64 100, .int .i64 8, .int .i64 4, .int .i64 40, .int .i64 40, .int .i64 4, .int .i64 20, .int .i64 2000]
theorem news_at (w : World) (l : List Value) (t : TypeId) (n : Nat) (hn : n = w.heap.size) : ∀ j u, l[j]? = some u → (w.alloc (.cells l.toArray t)).cell? ((⟨n, 0, none⟩ : Addr).add j) = some u := by
  intro j u hj
  subst hn
  cases j <;> simpa [Addr.add] using hj
theorem own_lit_at {base : Nat} {e : TypeId} {size : Nat} (w : World) (l : List Value) (n g : Nat) (hg : g = w.heap.size) (hb : base ≤ g) (hm : n ≤ maxLen) (hs : l.length = n * size) :
    (w.alloc (.cells l.toArray e)).ownsRow base e size (.slice (some ⟨g, 0, none⟩) n n) n l := by
  subst hg
  have := World.ownsRow_lit (base := base) (e := e) (size := size) w l.toArray n hb hm (by simpa using hs)
  simpa using this
theorem ones17 : ∀ u ∈ b17, u.oneCell' = true := by
  intro u hu
  simp [b17] at hu
  rcases hu with rfl | rfl | rfl | rfl | rfl | rfl | rfl | rfl | rfl | rfl | rfl | rfl | rfl | rfl | rfl | rfl <;> rfl
theorem a33_len : a33.length = 33 := rfl
theorem b17_len : b17.length = 17 := rfl
/-- A slice of 33 and 17 numbers that somebody owns: its cells. -/
theorem cells50 {w : World} {base : Nat} {v : Value} (h : w.ownsRow base 3 1 v 50 (a33 ++ b17)) : ∃ g cap cur, v = .slice (some ⟨g, 0, none⟩) 50 cap ∧ base ≤ g ∧ g < w.heap.size ∧ w.heap[g]? = some (.cells cur 3 (0, 0)) ∧ 50 ≤ cur.size ∧ ∀ k, k < 50 → w.cell? ⟨g, k, none⟩ = some (.int .i64 (namesL.getD k 0)) := by
  have h2 := h
  rcases h.2 with ⟨_, h⟩ | ⟨g, cap, cur, rfl, hg, hh, hn, _, hs, _⟩
  · simp at h
  · refine ⟨g, cap, cur, rfl, hg, (Array.getElem?_eq_some_iff.1 hh).1, hh, by omega, fun k hk => ?_⟩
    rw [h2.cellAt k (by omega)]
    have e : a33 ++ b17 = namesL.map (Value.int .i64) := rfl
    have hl : namesL.length = 50 := rfl
    rw [e, List.getElem?_map, List.getElem?_eq_getElem (by omega), List.getD, List.getElem?_eq_getElem (by omega)]
    rfl
set_option maxRecDepth 100000 in
set_option maxHeartbeats 2000000 in
theorem law_names (w : World) : Calls Try.prog 3 #[] w fun e w' => e = .returned (.bool true) ∧ Below w.heap.size w w' := by
  obtain ⟨i0, hi, hz0, hz1, hz2⟩ := info_parts infoInt
  go_enter Try.func3, Try.ntmps3
  go_wp2
  go_loop [2] (fun i => ∃ k : Nat, k ≤ 13 ∧ i = .int .i64 k) (fun i => 13 - (intOf i).toNat)
  case atStart => exact ⟨0, by omega, rfl⟩
  case round =>
    obtain ⟨k, hk, rfl⟩ := hrel
    by_cases hlt : k < 13
    · have hcell : (w.alloc (.cells #[.int .i64 0, .int .i64 1, .int .i64 2, .int .i64 3, .int .i64 4, .int .i64 5, .int .i64 6, .int .i64 7, .int .i64 8, .int .i64 9, .int .i64 10, .int .i64 11, .int .i64 12] 22)).cell? ⟨w.heap.size, k, none⟩ = some (.int .i64 k) := by
        rcases (by omega : k = 0 ∨ k = 1 ∨ k = 2 ∨ k = 3 ∨ k = 4 ∨ k = 5 ∨ k = 6 ∨ k = 7 ∨ k = 8 ∨ k = 9 ∨ k = 10 ∨ k = 11 ∨ k = 12) with rfl | rfl | rfl | rfl | rfl | rfl | rfl | rfl | rfl | rfl | rfl | rfl | rfl <;> simp
      go_wp2
      go_round
      case rel => exact ⟨k + 1, by omega, by go_num⟩
      case measure => simp [intOf]; omega
    · go_wp2_with (at_builtin; refine wpList_append_own _ rfl (.tmp 21) (.tmp 22) 24 rfl w.heap.size 3 i0 (.int .i64 0) 1 8 Try.underlying24 hi hz0 hz1 hz2 rfl (by decide) _ 33 a33 rfl ?own ⟨w.heap.size + 1 + 1 + 1, 0, none⟩ 17 17 b17 rfl rfl ?news ones17 ?m1 (by decide) ?base ?_)
      case own => refine ((own_lit_at _ a33 33 _ ?_ ?_ (by decide) rfl).alloc _).alloc _ <;> simp
      case news => exact fun _ _ h => h
      case m1 => decide
      case base => omega
      intro v1 w1 own1 grow1 _
      have oth : w1.ownsRow w.heap.size 3 1 (.slice (some ⟨w.heap.size + 1 + 1, 0, none⟩) 33 33) 33 a33 := by
        refine World.ownsRow.kept (row := _) ?_ grow1 (.inr (by simp [Value.ownBlock]))
        refine (own_lit_at _ a33 33 _ ?_ ?_ (by decide) rfl).alloc _ <;> first | rfl | omega | (simp; done) | (simp; omega)
      have hz := grow1.size
      simp only [World.size_alloc] at hz
      have bel1 : Below w.heap.size w w1 := Below.grown (by go_grown) grow1 (by simp; omega) (by intro k hk; simp [Value.ownBlock] at hk; omega)
      obtain ⟨g, cap, cur, rfl, hg, hgl, hgh, hgc, hcg⟩ := cells50 own1
      have gne : g ≠ w.heap.size + 1 + 1 := by
        intro e
        subst e
        rcases oth.2 with ⟨h, _⟩ | ⟨g0, c0, cu0, h, _, hh, _, _, hs, _⟩
        · simp at h
        · simp at h
          obtain ⟨rfl, rfl⟩ := h
          rw [hgh] at hh
          simp at hh
          subst hh
          omega
      clear grow1
      go_wp2_with (first
        | (at_builtin; refine wpList_append_own _ rfl (.tmp 24) (.tmp 25) 24 rfl w.heap.size 3 i0 (.int .i64 0) 1 8 Try.underlying24 hi hz0 hz1 hz2 rfl (by decide) _ 33 a33 rfl (oth.alloc _) ⟨w1.heap.size, 0, none⟩ 17 17 b17 rfl rfl (by exact news_at _ b17 _ _ rfl) ones17 (by decide) (by decide) (by simp; omega) ?_))
      intro v2 w2 own2 grow2 _
      have hz2' := grow2.size
      simp only [World.size_alloc] at hz2'
      have bel2 : Below w.heap.size w w2 := Below.grown (bel1.alloc (by omega) _) grow2 (by simp; omega) (by intro k hk; simp [Value.ownBlock] at hk; omega)
      obtain ⟨g', cap', cur', rfl, hg', _, _, _, hcg'⟩ := cells50 own2
      have hcg2 : ∀ k, k < 50 → w2.cell? ⟨g, k, none⟩ = some (.int .i64 (namesL.getD k 0)) := by
        intro k hk
        refine (World.cell?_of_block (a := ⟨g, k, none⟩) (grow2.block g (by simp; omega) (by simp [Value.ownBlock]; omega))).trans ?_
        exact ((Below.refl _ _).alloc (Nat.le_refl _) _ : Below w1.heap.size w1 _).cell (p := ⟨g, k, none⟩) hgl |>.trans (hcg k hk)
      clear grow2 hcg
      go_wp2
      go_loopw [5] (fun i wr => ∃ k : Nat, k ≤ 50 ∧ i = .int .i64 k ∧ ∃ n, wr = w2.drewN n) (fun i _ => 50 - (intOf i).toNat)
      case atStart => exact ⟨0, by omega, rfl, 0, rfl⟩
      case round =>
        obtain ⟨k, hk, rfl, m, rfl⟩ := hrel
        by_cases hlt : k < 50
        · have c1 := hcg2 k hlt
          have c2 := hcg' k hlt
          go_wp2
          go_quiet (fail)
          go_wp2
          go_roundw
          case rel => exact ⟨k + 1, by omega, by go_num, _, rfl⟩
          case measure => simp [intOf]; omega
        · go_wp2
          go_ret
          go_light
          exact ⟨rfl, below_drewN bel2⟩
end Go.Proofs.Ytbedhaagngomgaa
