/- The reference's AskedFor, where it is answered. -/
import Derived.Test.YtkehmidldcggcaaDoorLy
set_option linter.unusedSimpArgs false
set_option linter.unusedVariables false
namespace Go.Proofs.YtkehmidldcggcaaDoor
open Go.RowKit Go.Joins
theorem AskAt.appended {w : World} {R B g cap d2 : Nat} {b2 : Option Addr} {s1 : Value} {l1 l2 : List LK} {x z : LK} {W w6 : World} {y : Obj} (h : AskAt w R B s1 (.slice b2 l2.length d2) l1 l2 x W)
    (hgrow : (W.alloc y).grownBy w6 (Value.slice b2 l2.length d2).ownBlock) (hown : w6.ownsRow B 36 3 (.slice (some ⟨g, 0, none⟩) (l2.length + 1) cap) (l2.length + 1) (flat l2 ++ [.int .i64 z.t, .string z.s, .int .i64 z.m])) (hat : (Value.slice b2 l2.length d2).ownBlock = some g ∨ g = W.heap.size + 1) :
    AskAt w R B s1 (.slice (some ⟨g, 0, none⟩) (l2.length + 1) cap) l1 (l2 ++ [z]) x (w6.setCell ⟨R, 1, none⟩ (.slice (some ⟨g, 0, none⟩) (l2.length + 1) cap)) := by
  have z1 := h.base
  have z2 := h.size
  have z3 := h.size2
  have hz6 := hgrow.size
  simp at hz6
  have gR : g ≠ R := by
    rcases hat with h' | h'
    · intro e; subst e; exact h.far2 h'
    · omega
  have gB : B ≤ g := (own_lt hown rfl).1
  have rowB : ∀ k, (Value.slice b2 l2.length d2).ownBlock = some k → B ≤ k := fun k h' => (own_lt h.own.2.1 h').1
  have r6 := (hgrow.block R (by simp; omega) (Ne.symm h.far2)).trans ((Below.heap_alloc W _ _ z3).trans h.row)
  have o1 : w6.ownsRow B 36 3 s1 l1.length (flat l1) := ((Keeps.refl (fun k => (Value.slice b2 l2.length d2).ownBlock = some k) (W.alloc y)).grown hgrow (fun k hk => .inl hk)).own (h.own.1.alloc _) (fun g hg h' => h.own.2.2 g hg h')
  refine ⟨?_, ⟨ownsRow_setCell_other o1 h.far1 _, ?_, ?_⟩, z1, z2, by simp [World.setCell]; omega, block_setCell r6 _, h.far1, by simp [Value.ownBlock]; exact gR, ?_, ?_⟩
  · exact ((h.below.alloc (by have := h.below.size; omega) _).grown hgrow (by simp; omega) (fun k hk => by have := rowB k hk; omega)).setCell (p := ⟨R, 1, none⟩) (by show _ ≤ R; omega) _
  · rw [List.length_append, flat_snoc]
    exact ownsRow_setCell_other hown (by simp [Value.ownBlock]; exact gR) _
  · intro g' hg' h'
    simp [Value.ownBlock] at h'
    subst h'
    rcases hat with h' | h'
    · exact h.own.2.2 _ hg' h'
    · have := (own_lt h.own.1 hg').2; omega
  · exact (Below.heap_setCell _ _ _ _ (by show w.heap.size + 1 ≠ R; omega)).trans ((hgrow.block _ (by simp; omega) (fun h' => by have := rowB _ h'.symm; omega)).trans ((Below.heap_alloc _ _ _ (by omega)).trans h.ask))
  · exact (Below.heap_setCell _ _ _ _ (by show w.heap.size + 1 + 1 ≠ R; omega)).trans ((hgrow.block _ (by simp; omega) (fun h' => by have := rowB _ h'.symm; omega)).trans ((Below.heap_alloc _ _ _ (by omega)).trans h.ans))
/-- What stood before the second copy stands: nothing below it was written. -/
theorem below_appended {wc W w6 : World} {R2 : Nat} {row : Option Nat} {y : Obj} {u : Value} (hb : Below wc.heap.size wc W) (hgrow : (W.alloc y).grownBy w6 row) (hr : ∀ k, row = some k → wc.heap.size ≤ k) (hR : wc.heap.size ≤ R2) : Below wc.heap.size wc (w6.setCell ⟨R2, 1, none⟩ u) :=
  ((hb.alloc hb.size _).grown hgrow (by have := hb.size; simp; omega) hr).setCell (p := ⟨R2, 1, none⟩) hR _
theorem AskAt.put {w : World} {R B : Nat} {s1 s2 v u : Value} {m1 m2 : List LK} {x : LK} {W' : World} (hb : Below w.heap.size w W') (hr : W'.heap[R]? = some (.cells #[s1, s2] 30 (0, 0))) (z1 : w.heap.size + 1 + 1 < B) (z2 : B ≤ R) (z3 : R < W'.heap.size) (ho : OwnPair W' B v u m1 m2) (f1 : v.ownBlock ≠ some R) (f2 : u.ownBlock ≠ some R)
    (ha : W'.heap[w.heap.size + 1]? = some (.cells #[.int .i64 x.t, .string x.s, .int .i64 x.m] 36 (0, 0))) (hn : W'.heap[w.heap.size + 1 + 1]? = some (.cells #[.slice none 0 0, .slice none 0 0] 30 (0, 0))) :
    AskAt w R B v u m1 m2 x ((W'.setCell ⟨R, 0, none⟩ v).setCell ⟨R, 1, none⟩ u) := by
  refine ⟨(hb.setCell (p := ⟨R, 0, none⟩) (by show _ ≤ R; omega) _).setCell (p := ⟨R, 1, none⟩) (by show _ ≤ R; omega) _, ⟨ownsRow_setCell_other (ownsRow_setCell_other ho.1 f1 _) f1 _, ownsRow_setCell_other (ownsRow_setCell_other ho.2.1 f2 _) f2 _, ho.2.2⟩, z1, z2, by simpa [World.setCell] using z3, ?_, f1, f2, ?_, ?_⟩
  · have := block_setCell (i := 1) (block_setCell (i := 0) hr v) u
    simpa using this
  · exact (Below.heap_setCell _ _ _ _ (by show w.heap.size + 1 ≠ R; omega)).trans ((Below.heap_setCell _ _ _ _ (by show w.heap.size + 1 ≠ R; omega)).trans ha)
  · exact (Below.heap_setCell _ _ _ _ (by show w.heap.size + 1 + 1 ≠ R; omega)).trans ((Below.heap_setCell _ _ _ _ (by show w.heap.size + 1 + 1 ≠ R; omega)).trans hn)
theorem AskAt.given {w : World} {R B : Nat} {s1 s2 v : Value} {l1 l2 : List LK} {x : LK} {W W' : World} (h : AskAt w R B s1 s2 l1 l2 x W) (ho : OwnPair W' B v s2 (haveM x l1) l2) (hb : ∀ g, v.ownBlock = some g → s1.ownBlock = some g ∨ W.heap.size ≤ g) (hk : Keeps (fun k => s1.ownBlock = some k) W W') :
    AskAt w R B v s2 (haveM x l1) l2 x ((W'.setCell ⟨R, 0, none⟩ v).setCell ⟨R, 1, none⟩ s2) := by
  have z1 := h.base
  have z2 := h.size
  have z3 := h.size2
  have z4 := h.below.size
  have sB : ∀ k, s1.ownBlock = some k → B ≤ k := fun k hk => (own_lt h.own.1 hk).1
  refine AskAt.put (s1 := s1) (s2 := s2) (h.below.trans (hk.toBelow (fun k hk => by have := sB k hk; omega) z4)) ((hk.block _ z3 h.far1).trans h.row) z1 z2 (by have := hk.size; omega) ho ?_ h.far2 ((hk.block _ (by omega) (fun h' => by have := sB _ h'; omega)).trans h.ask) ((hk.block _ (by omega) (fun h' => by have := sB _ h'; omega)).trans h.ans)
  intro h'
  rcases hb R h' with h'' | h''
  · exact h.far1 h''
  · omega
def hadB (m ym : Int) : Bool := decide (0 < m ∧ ym = m)
set_option maxRecDepth 100000 in
set_option maxHeartbeats 4000000 in
theorem AskedFor_good (a1 a2 : Option Addr) (l1 l2 : List LK) (p1 p2 : Nat) (x : LK) (w : World) (h1 : LksAt w a1 l1) (h2 : LksAt w a2 l2) (n1 : l1.length ≤ 1048576) (n2 : l2.length ≤ 1048576) (q1 : l1.length ≤ p1) (q2 : l2.length ≤ p2) (m1 : ∀ x ∈ l1, x.s.size ≤ maxLen) (m2 : ∀ x ∈ l2, x.s.size ≤ maxLen) (hx : x.s.size ≤ maxLen)
    (hg : lockGood l1 l2) (hs : shapeM x = 0) :
    Calls Tryd.prog 19 #[.agg #[.slice a1 l1.length p1, .slice a2 l2.length p2], .agg #[.int .i64 x.t, .string x.s, .int .i64 x.m]] w (AskPost w (askM l1 l2 x)) := by
  have H1 := Lib.hid h1
  have H2 := Lib.hid h2
  have M1 := Lib.hid m1
  have M2 := Lib.hid m2
  have HX := Lib.hid hx
  have XM := Lib.hid (shape_mode hs).1
  have MM : Hid (∀ y ∈ l1, modeB y.m = true) := Lib.hid (fun y hy => (shape_mode (hg.2.1 y hy)).1)
  have few := hg.1
  have B3 : Hid (∀ x y z, Below w.heap.size w (((w.alloc x).alloc y).alloc z)) := fun x y z => Joins.below_alloc3 w x y z
  have HCk0 := fun x y z => locksFault_any a1 a2 l1 l2 p1 p2 (((w.alloc x).alloc y).alloc z) (H1.out.below (B3.out x y z) (Nat.le_refl _)) (H2.out.below (B3.out x y z) (Nat.le_refl _)) n1 n2 q1 q2 M1.out M2.out
  rw [chk_yes hg] at HCk0
  have HCk := Lib.hid HCk0
  have ART := Lib.hid (fun h => ask_twice hg hs h)
  have ARR := Lib.hid (fun h => ask_rest hg hs h)
  obtain ⟨xt, xs, xm⟩ := x
  have HS0 := fun w1 => lockFault_any ⟨xt, xs, xm⟩ w1 HX.out
  rw [hs] at HS0
  have HS := Lib.hid HS0
  clear h1 h2 m1 m2 hx hg hs HCk0 HS0
  go_enter Tryd.func19, Tryd.ntmps19
  go_upto_region 4 with (first
    | (go_at_call 16; refine (HCk.out _ _ _).mono ?_; rintro e w1 ⟨rfl, hb⟩; have hz := hb.size; (try simp only [World.size_alloc, World.size_setCell, World.size_drew, size_drewN] at hz); (try (have zw1_0 : w.heap.size < w1.heap.size := (by omega))); (try (have cw1_0 := fun o => hb.cell (p := ⟨w.heap.size, o, none⟩) (by (try simp only [World.size_alloc, World.size_setCell, World.size_drew, size_drewN]); omega))); (try (have fw1_0 := fun o => hb.frozen (p := ⟨w.heap.size, o, none⟩) (by (try simp only [World.size_alloc, World.size_setCell, World.size_drew, size_drewN]); omega))); (try (have zw1_1 : w.heap.size + 1 < w1.heap.size := (by omega))); (try (have cw1_1 := fun o => hb.cell (p := ⟨w.heap.size + 1, o, none⟩) (by (try simp only [World.size_alloc, World.size_setCell, World.size_drew, size_drewN]); omega))); (try (have fw1_1 := fun o => hb.frozen (p := ⟨w.heap.size + 1, o, none⟩) (by (try simp only [World.size_alloc, World.size_setCell, World.size_drew, size_drewN]); omega))); (try (have zw1_2 : w.heap.size + 1 + 1 < w1.heap.size := (by omega))); (try (have cw1_2 := fun o => hb.cell (p := ⟨w.heap.size + 1 + 1, o, none⟩) (by (try simp only [World.size_alloc, World.size_setCell, World.size_drew, size_drewN]); omega))); (try (have fw1_2 := fun o => hb.frozen (p := ⟨w.heap.size + 1 + 1, o, none⟩) (by (try simp only [World.size_alloc, World.size_setCell, World.size_drew, size_drewN]); omega))); have hb1 := hb)
    | (go_at_call 39; refine (HS.out _).mono ?_; rintro e w2 ⟨rfl, hb⟩; have hz := hb.size; (try simp only [World.size_alloc, World.size_setCell, World.size_drew, size_drewN] at hz); (try (have zw2_0 : w.heap.size < w2.heap.size := (by omega))); (try (have cw2_0 := fun o => hb.cell (p := ⟨w.heap.size, o, none⟩) (by (try simp only [World.size_alloc, World.size_setCell, World.size_drew, size_drewN]); omega))); (try (have fw2_0 := fun o => hb.frozen (p := ⟨w.heap.size, o, none⟩) (by (try simp only [World.size_alloc, World.size_setCell, World.size_drew, size_drewN]); omega))); (try (have zw2_1 : w.heap.size + 1 < w2.heap.size := (by omega))); (try (have cw2_1 := fun o => hb.cell (p := ⟨w.heap.size + 1, o, none⟩) (by (try simp only [World.size_alloc, World.size_setCell, World.size_drew, size_drewN]); omega))); (try (have fw2_1 := fun o => hb.frozen (p := ⟨w.heap.size + 1, o, none⟩) (by (try simp only [World.size_alloc, World.size_setCell, World.size_drew, size_drewN]); omega))); (try (have zw2_2 : w.heap.size + 1 + 1 < w2.heap.size := (by omega))); (try (have cw2_2 := fun o => hb.cell (p := ⟨w.heap.size + 1 + 1, o, none⟩) (by (try simp only [World.size_alloc, World.size_setCell, World.size_drew, size_drewN]); omega))); (try (have fw2_2 := fun o => hb.frozen (p := ⟨w.heap.size + 1 + 1, o, none⟩) (by (try simp only [World.size_alloc, World.size_setCell, World.size_drew, size_drewN]); omega))); have hb2 := hb))
  have zz1 := hb1.size
  simp at zz1
  have zz2 := hb2.size
  have bW : Below w.heap.size w w2 := by have := B3.out; (repeat' (first | (with_reducible exact Below.refl _ _) | (with_reducible assumption) | (with_reducible refine Below.alloc ?_ ?_ _) | (with_reducible refine Below.drew ?_) | (with_reducible refine below_drewN ?_) | (with_reducible refine Below.setCell ?_ ?_ _) | (with_reducible refine below_step ?_ ?_ (by with_reducible assumption)) | go_size))
  have t0 : w2.heap[w.heap.size]? = some (.cells #[.slice a1 l1.length p1, .slice a2 l2.length p2] 30 (0, 0)) :=
    (hb2.block _ (by omega)).trans ((hb1.block _ (by simp; omega)).trans (((Joins.below_alloc2 (w.alloc _) _ _).block _ (by simp)).trans (new_at _ _ _ rfl)))
  have t1 : w2.heap[w.heap.size + 1]? = some (.cells #[.int .i64 xt, .string xs, .int .i64 xm] 36 (0, 0)) :=
    (hb2.block _ (by omega)).trans ((hb1.block _ (by simp)).trans (((Joins.below_alloc1 ((w.alloc _).alloc _) _).block _ (by simp)).trans (new_at _ _ _ (by simp))))
  have t2 : w2.heap[w.heap.size + 1 + 1]? = some (.cells #[.slice none 0 0, .slice none 0 0] 30 (0, 0)) :=
    (hb2.block _ (by omega)).trans ((hb1.block _ (by simp)).trans (new_at _ _ _ (by simp)))
  have T0 := Lib.hid t0
  have T1 := Lib.hid t1
  have T2 := Lib.hid t2
  have BW := Lib.hid bW
  have zW : w.heap.size + 1 + 1 < w2.heap.size := by omega
  have k0 := Joins.cell_of_block t0 0
  have k1 := Joins.cell_of_block t0 1
  have x0 := Joins.cell_of_block t1 0
  have v3 := Joins.cell_of_block t2 0
  have v4 := Joins.cell_of_block t2 1
  have u3 := Joins.unfrozen_of_block t2 0
  have u4 := Joins.unfrozen_of_block t2 1
  simp at k0 k1 x0 v3 v4
  clear hb1 hb2 hb t0 t1 t2 bW zz1 zz2 hz cw1_0 cw1_1 cw1_2 fw1_0 fw1_1 fw1_2 zw1_0 zw1_1 zw1_2 cw2_0 cw2_1 cw2_2 fw2_0 fw2_1 fw2_2 zw2_0 zw2_1 zw2_2
  go_wp2
  go_loopw [7, 8] (fun e i wr => ∃ (k n : Nat), k ≤ l2.length ∧ i = .int .i64 k ∧ wr = w2.drewN n ∧ Hid ((e = .int .i64 0 ∧ (l2.take k).any (sameX ⟨xt, xs, xm⟩) = false) ∨ (e = .int .i64 9 ∧ l2.any (sameX ⟨xt, xs, xm⟩) = true))) (fun _ i _ => l2.length - (intOf i).toNat)
  case atStart => exact ⟨0, 0, by omega, rfl, (World.drewN_zero w2).symm, Lib.hid (.inl ⟨rfl, by simp⟩)⟩
  case round =>
    obtain ⟨k, n, hk, rfl, rfl, HE⟩ := hrel
    rcases HE.out with ⟨rfl, h0⟩ | ⟨rfl, h9⟩
    · have HJ := Lib.hid h0
      clear h0 HE
      by_cases hlt : k < l2.length
      · obtain ⟨y, hy⟩ : ∃ y, l2[k]? = some y := ⟨l2[k], by simp [hlt]⟩
        obtain ⟨b', o', rfl, hb', d0, -, -⟩ := H2.out.at hy
        have d0 := (BW.out.cell (p := ⟨b', o' + k * 3, none⟩) hb').trans d0
        have i3 : (0 : Int) ≤ (k : Int) := by omega
        have i4 : (k : Int) < (l2.length : Int) := by omega
        have HY := Lib.hid hy
        clear hy hb'
        obtain ⟨yt, ys, ym⟩ := y
        simp only at d0
        cases e2 : (yt == xt)
        · go_wp2
          go_quiet (fail)
          go_wp2
          go_roundw
          case rel => exact ⟨k + 1, _, by omega, by go_num, rfl, Lib.hid (.inl ⟨rfl, by rw [any_take_succ HY.out, HJ.out]; simpa [sameX] using e2⟩)⟩
          case measure => simp [intOf]; omega
        · go_wp2
          go_quiet (fail)
          go_wp2
          go_roundw
          case rel => exact ⟨k + 1, _, by omega, by go_num, rfl, Lib.hid (.inr ⟨rfl, List.any_eq_true.2 ⟨_, List.mem_of_getElem? HY.out, by simpa [sameX] using e2⟩⟩)⟩
          case measure => simp [intOf]; omega
      · obtain rfl : k = l2.length := by omega
        have hno := HJ.out
        rw [List.take_length] at hno
        have AR := Lib.hid (ARR.out hno)
        clear hno HJ ARR ART
        generalize hq : w2.drewN n = wq
        have h2 : wq.heap = w2.heap := by rw [← hq]; rfl
        have BQ := Lib.hid (show Below w.heap.size w wq by rw [← hq]; exact below_drewN BW.out)
        have t0 := (congrArg (fun h : Array Obj => h[w.heap.size]?) h2).trans T0.out
        have t1 := (congrArg (fun h : Array Obj => h[w.heap.size + 1]?) h2).trans T1.out
        have t2 := (congrArg (fun h : Array Obj => h[w.heap.size + 1 + 1]?) h2).trans T2.out
        have zq : w.heap.size + 1 + 1 < wq.heap.size := by rw [h2]; exact zW
        clear k0 k1 x0 v3 v4 u3 u4 zW T0 T1 T2 BW hq h2
        have k0 := Joins.cell_of_block t0 0
        have k1 := Joins.cell_of_block t0 1
        simp at k0 k1
        have T0 := Lib.hid t0
        have T1 := Lib.hid t1
        have T2 := Lib.hid t2
        have HCP := Lib.hid (copy_own a1 a2 l1 l2 p1 p2 wq (H1.out.below BQ.out (Nat.le_refl _)) (H2.out.below BQ.out (Nat.le_refl _)) n1 n2)
        clear t0 t1 t2
        go_upto_region 12 with (go_at_call 14; refine HCP.out.mono ?_; rintro e w4 ⟨⟨v1, v2, rfl, o1, o2, dis⟩, hb4⟩; obtain ⟨-, b1, d1, rfl, -, -, le1⟩ := lks_of_owns o1; obtain ⟨-, b2, d2, rfl, -, -, le2⟩ := lks_of_owns o2; have OW : Hid (OwnPair w4 wq.heap.size _ _ l1 l2) := Lib.hid ⟨o1, o2, dis⟩; have HB4 := Lib.hid hb4; clear o1 o2 dis hb4)
        have st : AskAt w w4.heap.size wq.heap.size (.slice b1 l1.length d1) (.slice b2 l2.length d2) l1 l2 ⟨xt, xs, xm⟩ (w4.alloc (.cells #[.slice b1 l1.length d1, .slice b2 l2.length d2] 30)) := by
          have b := BQ.out
          have hb4 := HB4.out
          have z4 := hb4.size
          refine ⟨by (repeat' (first | (with_reducible exact Below.refl _ _) | (with_reducible assumption) | (with_reducible refine Below.alloc ?_ ?_ _) | (with_reducible refine Below.drew ?_) | (with_reducible refine below_drewN ?_) | (with_reducible refine Below.setCell ?_ ?_ _) | (with_reducible refine below_step ?_ ?_ (by with_reducible assumption)) | go_size)), OW.out.below (Joins.below_alloc1 _ _) (Nat.le_refl _), by omega, z4, by simp, new_at _ _ _ rfl, own_ne' OW.out.1 (Nat.le_refl _), own_ne' OW.out.2.1 (Nat.le_refl _), ?_, ?_⟩
          · exact (Below.heap_alloc _ _ _ (by omega)).trans ((hb4.block _ (by omega)).trans T1.out)
          · exact (Below.heap_alloc _ _ _ (by omega)).trans ((hb4.block _ (by omega)).trans T2.out)
        have L0 : Hid (∀ y, (w4.alloc y).heap[w.heap.size]? = some (.cells #[.slice a1 l1.length p1, .slice a2 l2.length p2] 30 (0, 0))) := Lib.hid (fun y => (Below.heap_alloc _ _ _ (by have := HB4.out.size; omega)).trans ((HB4.out.block _ (by omega)).trans T0.out))
        have BA : Hid (Below w.heap.size w (w4.alloc (.cells #[.slice b1 l1.length d1, .slice b2 l2.length d2] 30))) := Lib.hid st.below
        have l0 := L0.out (.cells #[.slice b1 l1.length d1, .slice b2 l2.length d2] 30)
        generalize hW : w4.alloc (.cells #[.slice b1 l1.length d1, .slice b2 l2.length d2] 30) = W at st BA l0 ⊢
        generalize hR : w4.heap.size = R at st ⊢
        generalize hB : wq.heap.size = B at st
        clear hW hR hB OW HB4 T0 T1 T2 HCP k0 k1 zq L0 BQ
        have k0 := Joins.cell_of_block l0 0
        have x0 := Joins.cell_of_block st.ask 0
        have x1 := Joins.cell_of_block st.ask 1
        simp at k0 x0 x1
        have z1 := st.base
        have z2 := st.size
        have ST := Lib.hid st
        have L0 := Lib.hid l0
        have HMo := Lib.hid (modeOf_any a1 l1 p1 xt xs W (H1.out.below BA.out (Nat.le_refl _)) (by omega))
        clear st l0 BA
        go_upto_if 53 with (go_at_call 40; refine HMo.out.mono ?_; rintro e w' ⟨rfl, rfl⟩)
        clear k0 x0 x1 HMo
        go_cut [10] from 51 to 58 (fun s10 wx => Hid (s10 = .int .i64 (modeM xt xs l1) ∧ wx.heap[w.heap.size]? = some (.cells #[.slice a1 l1.length p1, .slice a2 l2.length p2] 30 (0, 0)) ∧ ∃ x' : LK, AskAt w R B (.slice b1 l1.length d1) (.slice b2 l2.length d2) l1 l2 x' wx ∧ askX l1 ⟨xt, xs, xm⟩ = x' ∧ modeB x'.m = true))
        case first =>
          rcases find_mode xt xs l1 with ⟨-, f2, -⟩ | ⟨j, y, -, f2, f3, f4⟩
          · have F2 := Lib.hid f2
            go_wp2
            go_meet
            refine Lib.hid ⟨by rw [F2.out], L0.out, _, ST.out, ?_, XM.out⟩
            unfold askX; rw [F2.out, if_neg (by omega)]
          · obtain ⟨y1, y2⟩ := modeB_iff.1 (MM.out y (List.mem_of_getElem? f2))
            obtain ⟨m1, m2⟩ := modeB_iff.1 XM.out
            have y1' : 1 ≤ modeM xt xs l1 := by rw [f4]; exact y1
            have y2' : modeM xt xs l1 ≤ 5 := by rw [f4]; exact y2
            clear f4 f3 f2 y1 y2
            have HJo := fun w1 => joined_any (modeM xt xs l1) xm w1
            simp only [joined_eq (modeM xt xs l1) xm y1' y2' m1 m2] at HJo
            have HJo' := Lib.hid HJo
            have x2 := Joins.cell_of_block ST.out.ask 2
            have u2 := Joins.unfrozen_of_block ST.out.ask 2
            simp at x2
            have dp : decide ((0 : Int) < modeM xt xs l1) = true := by simp; omega
            have hjm : modeB (joinB (modeM xt xs l1) xm) = true := by
              generalize modeM xt xs l1 = ym at y1' y2'
              rcases modes_cases y1' y2' with rfl | rfl | rfl | rfl | rfl <;> rcases modes_cases m1 m2 with rfl | rfl | rfl | rfl | rfl <;> decide
            have HJM := Lib.hid hjm
            have hx2 : askX l1 ⟨xt, xs, xm⟩ = ⟨xt, xs, joinB (modeM xt xs l1) xm⟩ := by
              unfold askX; rw [if_pos (by show (0 : Int) < modeM xt xs l1; omega)]
            have HX2 := Lib.hid hx2
            clear HJo hjm hx2 y2' m1 m2 dp
            go_wp2_with (go_at_call 31; refine (HJo'.out _).mono ?_; rintro e w' ⟨rfl, rfl⟩)
            go_meet
            case rel => exact Lib.hid ⟨rfl, (Below.heap_setCell _ _ _ _ (by show w.heap.size ≠ w.heap.size + 1; omega)).trans L0.out, _, ST.out.mode _, HX2.out, HJM.out⟩
        case rest =>
          obtain ⟨rfl, l0, x', st, hx', hm'⟩ := hcut.out
          have L0 := Lib.hid l0
          have ST := Lib.hid st
          have XM' := Lib.hid hm'
          have HX' := Lib.hid hx'
          obtain ⟨yt, ys, ym⟩ := x'
          have k0 := Joins.cell_of_block st.row 0
          have k1 := Joins.cell_of_block st.row 1
          have x2 := Joins.cell_of_block st.ask 2
          have v3 := Joins.cell_of_block st.ans 0
          have v4 := Joins.cell_of_block st.ans 1
          have u3 := Joins.unfrozen_of_block st.ans 0
          have u4 := Joins.unfrozen_of_block st.ans 1
          simp at k0 k1 x2 v3 v4
          clear hx' hm' st l0 hcut
          go_upto_region 15 with fail
          go_cut [66] from 59 to 65 (fun s66 wx => Hid (s66 = .bool (hadB (modeM xt xs l1) ym) ∧ wx = wc))
          case first =>
            by_cases gm : 0 < modeM xt xs l1
            · have dp : decide ((0 : Int) < modeM xt xs l1) = true := by simpa using gm
              cases dq : (ym == modeM xt xs l1)
              · have DQ := Lib.hid dq
                go_wp2
                go_meet
                exact Lib.hid ⟨by rw [hadB, decide_eq_false (fun h => by have dq := DQ.out; rw [beq_eq_false_iff_ne] at dq; exact dq h.2)], rfl⟩
              · go_wp2
                go_meet
                exact Lib.hid ⟨by rw [hadB, decide_eq_true ⟨by omega, by simpa using dq⟩], rfl⟩
            · have dp : decide ((0 : Int) < modeM xt xs l1) = false := by simpa using gm
              go_wp2
              go_meet
              exact Lib.hid ⟨by rw [hadB, decide_eq_false (fun h => by have := h.1; omega)], rfl⟩
          case rest =>
            obtain ⟨rfl, hwc⟩ := hcut.out
            clear hcut
            subst hwc
            cases hd : hadB (modeM xt xs l1) ym
            · have had : ¬(0 < modeM xt xs l1 ∧ ym = modeM xt xs l1) := by simpa [hadB] using hd
              have AR2 := Lib.hid (AR.out.trans (ask_else HX'.out had))
              have BC := Lib.hid ST.out.below
              have zc := ST.out.size2
              have HCP := Lib.hid (copy_own a1 a2 l1 l2 p1 p2 wc (H1.out.below BC.out (Nat.le_refl _)) (H2.out.below BC.out (Nat.le_refl _)) n1 n2)
              have t0 := Joins.cell_of_block L0.out 0
              have t1 := Joins.cell_of_block L0.out 1
              simp at t0 t1
              clear had hd AR
              go_upto_region 18 with (go_at_call 14; refine HCP.out.mono ?_; rintro e w4 ⟨⟨v5, v6, rfl, o1, o2, dis⟩, hb4⟩; obtain ⟨-, b5, d5, rfl, -, -, le5⟩ := lks_of_owns o1; obtain ⟨-, b6, d6, rfl, -, -, le6⟩ := lks_of_owns o2; have OW : Hid (OwnPair w4 wc.heap.size _ _ l1 l2) := Lib.hid ⟨o1, o2, dis⟩; have HB4 := Lib.hid hb4; clear o1 o2 dis hb4)
              have hz4 := HB4.out.size
              have dd : OwnPair w4 wc.heap.size (.slice b5 l1.length d5) (.slice b6 l2.length d6) l1 l2 := OW.out
              have st2 : AskAt w w4.heap.size wc.heap.size (.slice b5 l1.length d5) (.slice b6 l2.length d6) l1 l2 ⟨yt, ys, ym⟩ (w4.alloc (.cells #[.slice b5 l1.length d5, .slice b6 l2.length d6] 30)) := by
                have b := BC.out
                have hb4 := HB4.out
                exact ⟨by (repeat' (first | (with_reducible exact Below.refl _ _) | (with_reducible assumption) | (with_reducible refine Below.alloc ?_ ?_ _) | (with_reducible refine Below.drew ?_) | (with_reducible refine below_drewN ?_) | (with_reducible refine Below.setCell ?_ ?_ _) | (with_reducible refine below_step ?_ ?_ (by with_reducible assumption)) | go_size)), OW.out.below (Joins.below_alloc1 _ _) (Nat.le_refl _), by omega, hz4, by simp, new_at _ _ _ rfl, own_ne' OW.out.1 (Nat.le_refl _), own_ne' OW.out.2.1 (Nat.le_refl _), (Below.heap_alloc _ _ _ (by omega)).trans ((hb4.block _ (by omega)).trans ST.out.ask), (Below.heap_alloc _ _ _ (by omega)).trans ((hb4.block _ (by omega)).trans ST.out.ans)⟩
              have bc : Below wc.heap.size wc (w4.alloc (.cells #[.slice b5 l1.length d5, .slice b6 l2.length d6] 30)) := HB4.out.alloc (by omega) _
              generalize hW : w4.alloc (.cells #[.slice b5 l1.length d5, .slice b6 l2.length d6] 30) = W2 at st2 bc ⊢
              generalize hR : w4.heap.size = R2 at st2 ⊢
              have ST2 := Lib.hid st2
              have BC2 := Lib.hid bc
              clear hW hR OW HB4 dd st2 bc hz4
              obtain ⟨i0, hi0, hz0, hz1, hz2⟩ := info_parts infoLock
              have k0 := Joins.cell_of_block ST2.out.row 0
              have k1 := Joins.cell_of_block ST2.out.row 1
              have x0 := Joins.cell_of_block ST2.out.ask 0
              have x1 := Joins.cell_of_block ST2.out.ask 1
              have x2 := Joins.cell_of_block ST2.out.ask 2
              simp at k0 k1 x0 x1 x2
              have y3 := ST2.out.size2
              have y2 := ST2.out.size
              clear v3 v4 u3 u4 t0 t1
              go_upto_region 19 with (at_builtin; refine wpList_append_lies _ rfl (.tmp 71) (.tmp 73) 28 rfl wc.heap.size 36 i0 _ 3 32 Tryd.underlying28 hi0 hz0 hz1 hz2 rfl (by decide) (.slice b6 l2.length d6) l2.length (flat l2) rfl (ST2.out.own.2.1.alloc _) ⟨W2.heap.size, 0, none⟩ 1 1 [.int .i64 yt, .string ys, .int .i64 ym] rfl rfl (World.news_of_block (cs := #[.int .i64 yt, .string ys, .int .i64 ym]) (t := 36) (fr := (0, 0)) (heap_alloc_new W2 _)) (by simp [Value.oneCell']) (by omega) (by unfold maxLen; omega) (by omega) (by simp; omega) (W2.heap.size + 1) (by simp) ?_; intro g cap w6 hown hgrow hat hlt; have r6 := (hgrow.block R2 (by simp; omega) (Ne.symm ST2.out.far2)).trans ((Below.heap_alloc W2 _ _ y3).trans ST2.out.row); have HO := Lib.hid hown; have HG := Lib.hid hgrow; have HA := Lib.hid hat; have u1 := Joins.cell_of_block r6 1; have u2 := Joins.unfrozen_of_block r6 1; simp at u1; clear hown hgrow hat r6)
              have st7 : AskAt w R2 wc.heap.size (.slice b5 l1.length d5) (.slice (some ⟨g, 0, none⟩) (l2.length + 1) cap) l1 (l2 ++ [⟨yt, ys, ym⟩]) ⟨yt, ys, ym⟩ (w6.setCell ⟨R2, 1, none⟩ (.slice (some ⟨g, 0, none⟩) (l2.length + 1) cap)) := ST2.out.appended HG.out HO.out HA.out
              have bc7 : Below wc.heap.size wc (w6.setCell ⟨R2, 1, none⟩ (.slice (some ⟨g, 0, none⟩) (l2.length + 1) cap)) := below_appended BC2.out HG.out (fun k h => (own_lt ST2.out.own.2.1 h).1) y2
              have k0 := Joins.cell_of_block st7.row 0
              have k1 := Joins.cell_of_block st7.row 1
              have l0 := (bc7.block w.heap.size (by omega)).trans L0.out
              have j1 := Joins.cell_of_block l0 1
              simp at k0 k1 j1
              have HWt := Lib.hid (waitsFor_at b5 (some ⟨g, 0, none⟩) l1 (l2 ++ [⟨yt, ys, ym⟩]) l1.length (l2.length + 1) d5 cap l2.length ⟨yt, ys, ym⟩ _ rfl (by simp) (lks_own st7.own.1) (lks_own st7.own.2.1) (by omega) (by omega) (by simp))
              have ST7 := Lib.hid st7
              have BC7 := Lib.hid bc7
              generalize hW7 : w6.setCell ⟨R2, 1, none⟩ (.slice (some ⟨g, 0, none⟩) (l2.length + 1) cap) = w7 at st7 bc7 HWt ST7 BC7 k0 k1 j1 l0 ⊢
              have y7 := st7.size2
              have CAN : Hid (firstM l1 (l2 ++ [⟨yt, ys, ym⟩]) l2.length ⟨yt, ys, ym⟩ = true ↔ wfM l1 (l2 ++ [⟨yt, ys, ym⟩]) l2.length ⟨yt, ys, ym⟩ = []) := Lib.hid (wfM_nil XM'.out MM.out).symm
              clear hW7 st7 bc7 l0 HG HO HA u1 u2 x0 x1 x2 ST2 BC2 y3
              by_cases e5 : wfM l1 (l2 ++ [⟨yt, ys, ym⟩]) l2.length ⟨yt, ys, ym⟩ = []
              · have fr : firstM l1 (l2 ++ [⟨yt, ys, ym⟩]) l2.length ⟨yt, ys, ym⟩ = true := CAN.out.2 e5
                have AR3 := Lib.hid (AR2.out.trans (if_pos fr))
                have HWt' := HWt.out
                rw [e5] at HWt'
                have HW2 := Lib.hid HWt'
                clear fr HWt HWt' e5 AR2
                go_upto_region 23 with (first
                  | (go_at_call 42; refine HW2.out.mono ?_; rintro e w8 ⟨⟨v, rfl, own⟩, hb8⟩; simp only [List.length_nil] at own; obtain ⟨a', c', rfl⟩ := slice_form own; have B8 := Lib.hid hb8; have st8 := (ST.out.later BC7.out).later hb8; have ST8 := Lib.hid st8; have k0 := Joins.cell_of_block st8.row 0; have k1 := Joins.cell_of_block st8.row 1; have x0 := Joins.cell_of_block st8.ask 0; have x1 := Joins.cell_of_block st8.ask 1; have x2 := Joins.cell_of_block st8.ask 2; have GV := Lib.hid (given_any B _ _ l1 l2 ⟨yt, ys, ym⟩ w8 st8.own (by have := st8.size2; omega) (by omega)); simp at k0 k1 x0 x1 x2; clear own hb8 st8)
                  | (go_at_call 46; refine GV.out.mono ?_; rintro e w9 ⟨⟨v9, rfl, own9, bl9⟩, kp9⟩; obtain ⟨-, b9, d9, rfl, -, -, le9⟩ := lks_of_owns own9.1; have r9 := (kp9.block R ST8.out.size2 (fun h => ST8.out.far1 h)).trans ST8.out.row; have c0 := Joins.cell_of_block r9 0; have c1 := Joins.cell_of_block r9 1; have f0 := Joins.unfrozen_of_block r9 0; have f1 := Joins.unfrozen_of_block r9 1; simp at c0 c1; have st9 := ST8.out.given own9 bl9 kp9; have ST9 := Lib.hid st9; clear own9 bl9 kp9 r9 st9))
                have hl := haveM_len ⟨yt, ys, ym⟩ l1
                obtain ⟨hl1, hl2⟩ := hl
                generalize hW9 : (w9.setCell ⟨R, 0, none⟩ (.slice b9 (haveM ⟨yt, ys, ym⟩ l1).length d9)).setCell ⟨R, 1, none⟩ (.slice b2 l2.length d2) = w10 at ST9 ⊢
                clear hW9 c0 c1 f0 f1 k0 k1 x0 x1 x2 j1
                have k0 := Joins.cell_of_block ST9.out.row 0
                have k1 := Joins.cell_of_block ST9.out.row 1
                have v3 := Joins.cell_of_block ST9.out.ans 0
                have v4 := Joins.cell_of_block ST9.out.ans 1
                have u3 := Joins.unfrozen_of_block ST9.out.ans 0
                have u4 := Joins.unfrozen_of_block ST9.out.ans 1
                simp at k0 k1 v3 v4
                have z9 := ST9.out.size2
                by_cases full : 200 < (haveM ⟨yt, ys, ym⟩ l1).length + l2.length
                · have hd : decide ((200 : Int) < ((haveM ⟨yt, ys, ym⟩ l1).length : Int) + (l2.length : Int)) = true := by simp; omega
                  have FU := Lib.hid full
                  clear full
                  go_wp2
                  ((try simp only [Exit.inBlock, Exit.then]); go_light; refine bodyPost_ret (by simp [results, Tryd.results19, go_sem, *]; try rfl) rfl ?_)
                  rw [AR3.out, if_pos FU.out]
                  refine ⟨⟨none, none, 0, 0, rfl, .inl rfl, .inl rfl⟩, ?_⟩
                  exact (ST9.out.below.setCell (p := ⟨w.heap.size + 1 + 1, 0, none⟩) (by show _ ≤ w.heap.size + 1 + 1; omega) _).setCell (p := ⟨w.heap.size + 1 + 1, 1, none⟩) (by show _ ≤ w.heap.size + 1 + 1; omega) _
                · have hd : decide ((200 : Int) < ((haveM ⟨yt, ys, ym⟩ l1).length : Int) + (l2.length : Int)) = false := by simp; omega
                  have FU := Lib.hid full
                  clear full
                  go_wp2
                  ((try simp only [Exit.inBlock, Exit.then]); go_light; refine bodyPost_ret (by simp [results, Tryd.results19, go_sem, *]; try rfl) rfl ?_)
                  rw [AR3.out, if_neg FU.out]
                  have f1 : (Value.slice b9 (haveM ⟨yt, ys, ym⟩ l1).length d9).ownBlock ≠ some (w.heap.size + 1 + 1) := fun h => by have := (own_lt ST9.out.own.1 h).1; omega
                  have f2 : (Value.slice b2 l2.length d2).ownBlock ≠ some (w.heap.size + 1 + 1) := fun h => by have := (own_lt ST9.out.own.2.1 h).1; omega
                  refine ⟨⟨_, _, _, _, rfl, ?_, ?_⟩, ?_⟩
                  · exact lks_own (ownsRow_setCell_other (ownsRow_setCell_other ST9.out.own.1 f1 _) f1 _)
                  · exact lks_own (ownsRow_setCell_other (ownsRow_setCell_other ST9.out.own.2.1 f2 _) f2 _)
                  · exact (ST9.out.below.setCell (p := ⟨w.heap.size + 1 + 1, 0, none⟩) (by show _ ≤ w.heap.size + 1 + 1; omega) _).setCell (p := ⟨w.heap.size + 1 + 1, 1, none⟩) (by show _ ≤ w.heap.size + 1 + 1; omega) _
              · have fr : firstM l1 (l2 ++ [⟨yt, ys, ym⟩]) l2.length ⟨yt, ys, ym⟩ ≠ true := fun h => e5 (CAN.out.1 h)
                have AR3 := Lib.hid (AR2.out.trans (if_neg fr))
                obtain ⟨m, hm'⟩ : ∃ m, (wfM l1 (l2 ++ [⟨yt, ys, ym⟩]) l2.length ⟨yt, ys, ym⟩).length = m + 1 := ⟨(wfM l1 (l2 ++ [⟨yt, ys, ym⟩]) l2.length ⟨yt, ys, ym⟩).length - 1, by have := List.length_pos_iff.2 e5; omega⟩
                have mz : ((m : Int) + 1 == 0) = false := by simp; omega
                have HM2 := Lib.hid hm'
                clear fr e5 AR2 hm' CAN
                go_upto_region 23 with (go_at_call 42; refine HWt.out.mono ?_; rintro e w8 ⟨⟨v, rfl, own⟩, hb8⟩; rw [HM2.out] at own; obtain ⟨a', c', rfl⟩ := slice_form own; have st8 := (ST.out.later BC7.out).later hb8; have st8b := ST7.out.later hb8; have ST8 := Lib.hid st8; have ST8B := Lib.hid st8b; have k0 := Joins.cell_of_block st8b.row 0; have k1 := Joins.cell_of_block st8b.row 1; have r8 := st8.row; have c0 := Joins.cell_of_block r8 0; have c1 := Joins.cell_of_block r8 1; have f0 := Joins.unfrozen_of_block r8 0; have f1 := Joins.unfrozen_of_block r8 1; simp at k0 k1 c0 c1; clear own hb8 st8 st8b r8)
                have st9 := AskAt.put (w := w) (B := B) (x := ⟨yt, ys, ym⟩) ST8.out.below ST8.out.row z1 z2 ST8.out.size2 ⟨ownsRow_le ST8B.out.own.1 (by omega), ownsRow_le ST8B.out.own.2.1 (by omega), ST8B.out.own.2.2⟩ (fun h => by have := (own_lt ST8B.out.own.1 h).1; omega) (fun h => by have := (own_lt ST8B.out.own.2.1 h).1; omega) ST8.out.ask ST8.out.ans
                have ST9 := Lib.hid st9
                generalize hW9 : (w8.setCell ⟨R, 0, none⟩ (.slice b5 l1.length d5)).setCell ⟨R, 1, none⟩ (.slice (some ⟨g, 0, none⟩) (l2.length + 1) cap) = w10 at st9 ST9 ⊢
                clear hW9 st9 c0 c1 f0 f1 k0 k1 j1
                have k0 := Joins.cell_of_block ST9.out.row 0
                have k1 := Joins.cell_of_block ST9.out.row 1
                have v3 := Joins.cell_of_block ST9.out.ans 0
                have v4 := Joins.cell_of_block ST9.out.ans 1
                have u3 := Joins.unfrozen_of_block ST9.out.ans 0
                have u4 := Joins.unfrozen_of_block ST9.out.ans 1
                simp at k0 k1 v3 v4
                have z9 := ST9.out.size2
                by_cases full : 200 < l1.length + (l2.length + 1)
                · have hd : decide ((200 : Int) < (l1.length : Int) + ((l2.length : Int) + 1)) = true := by simp; omega
                  have FU := Lib.hid full
                  clear full
                  go_wp2
                  ((try simp only [Exit.inBlock, Exit.then]); go_light; refine bodyPost_ret (by simp [results, Tryd.results19, go_sem, *]; try rfl) rfl ?_)
                  rw [AR3.out, if_pos FU.out]
                  refine ⟨⟨none, none, 0, 0, rfl, .inl rfl, .inl rfl⟩, ?_⟩
                  exact (ST9.out.below.setCell (p := ⟨w.heap.size + 1 + 1, 0, none⟩) (by show _ ≤ w.heap.size + 1 + 1; omega) _).setCell (p := ⟨w.heap.size + 1 + 1, 1, none⟩) (by show _ ≤ w.heap.size + 1 + 1; omega) _
                · have hd : decide ((200 : Int) < (l1.length : Int) + ((l2.length : Int) + 1)) = false := by simp; omega
                  have FU := Lib.hid full
                  clear full
                  go_wp2
                  ((try simp only [Exit.inBlock, Exit.then]); go_light; refine bodyPost_ret (by simp [results, Tryd.results19, go_sem, *]; try rfl) rfl ?_)
                  rw [AR3.out, if_neg FU.out]
                  have f1 : (Value.slice b5 l1.length d5).ownBlock ≠ some (w.heap.size + 1 + 1) := fun h => by have := (own_lt ST9.out.own.1 h).1; omega
                  have f2 : (Value.slice (some ⟨g, 0, none⟩) (l2.length + 1) cap).ownBlock ≠ some (w.heap.size + 1 + 1) := fun h => by have := (own_lt ST9.out.own.2.1 h).1; omega
                  refine ⟨⟨b5, some ⟨g, 0, none⟩, d5, cap, by simp, ?_, ?_⟩, ?_⟩
                  · exact lks_own (ownsRow_setCell_other (ownsRow_setCell_other ST9.out.own.1 f1 _) f1 _)
                  · exact lks_own (ownsRow_setCell_other (ownsRow_setCell_other ST9.out.own.2.1 f2 _) f2 _)
                  · exact (ST9.out.below.setCell (p := ⟨w.heap.size + 1 + 1, 0, none⟩) (by show _ ≤ w.heap.size + 1 + 1; omega) _).setCell (p := ⟨w.heap.size + 1 + 1, 1, none⟩) (by show _ ≤ w.heap.size + 1 + 1; omega) _
            · have had : 0 < modeM xt xs l1 ∧ ym = modeM xt xs l1 := by simpa [hadB] using hd
              have g1 := had.1
              have g2 := had.2
              have AR2 := Lib.hid (AR.out.trans (ask_had g1 (by have := HX'.out; unfold askX at this; rw [if_pos g1] at this; simp only [LK.mk.injEq] at this; rw [this.2.2, g2])))
              clear g1 g2 had hd
              go_wp2
              ((try simp only [Exit.inBlock, Exit.then]); go_light; refine bodyPost_ret (by simp [results, Tryd.results19, go_sem, *]; try rfl) rfl ?_)
              rw [AR2.out]
              have f1 : (Value.slice b1 l1.length d1).ownBlock ≠ some (w.heap.size + 1 + 1) := fun h => by have := (own_lt ST.out.own.1 h).1; omega
              have f2 : (Value.slice b2 l2.length d2).ownBlock ≠ some (w.heap.size + 1 + 1) := fun h => by have := (own_lt ST.out.own.2.1 h).1; omega
              refine ⟨⟨_, _, _, _, rfl, ?_, ?_⟩, ?_⟩
              · exact lks_own (ownsRow_setCell_other (ownsRow_setCell_other ST.out.own.1 f1 _) f1 _)
              · exact lks_own (ownsRow_setCell_other (ownsRow_setCell_other ST.out.own.2.1 f2 _) f2 _)
              · exact (ST.out.below.setCell (p := ⟨w.heap.size + 1 + 1, 0, none⟩) (by show _ ≤ w.heap.size + 1 + 1; omega) _).setCell (p := ⟨w.heap.size + 1 + 1, 1, none⟩) (by show _ ≤ w.heap.size + 1 + 1; omega) _
    · have AR := Lib.hid (ART.out h9)
      clear h9 HE
      by_cases hlt : k < l2.length
      · go_wp2
        ((try simp only [Exit.inBlock, Exit.then]); go_light; refine bodyPost_ret (by simp [results, Tryd.results19, go_sem, *]; try rfl) rfl ?_)
        rw [AR.out]
        refine ⟨⟨none, none, 0, 0, rfl, .inl rfl, .inl rfl⟩, ?_⟩
        exact ((below_drewN BW.out).setCell (p := ⟨w.heap.size + 1 + 1, 0, none⟩) (by show _ ≤ w.heap.size + 1 + 1; omega) _).setCell (p := ⟨w.heap.size + 1 + 1, 1, none⟩) (by show _ ≤ w.heap.size + 1 + 1; omega) _
      · obtain rfl : k = l2.length := by omega
        go_wp2
        ((try simp only [Exit.inBlock, Exit.then]); go_light; refine bodyPost_ret (by simp [results, Tryd.results19, go_sem, *]; try rfl) rfl ?_)
        rw [AR.out]
        refine ⟨⟨none, none, 0, 0, rfl, .inl rfl, .inl rfl⟩, ?_⟩
        exact ((below_drewN BW.out).setCell (p := ⟨w.heap.size + 1 + 1, 0, none⟩) (by show _ ≤ w.heap.size + 1 + 1; omega) _).setCell (p := ⟨w.heap.size + 1 + 1, 1, none⟩) (by show _ ≤ w.heap.size + 1 + 1; omega) _
end Go.Proofs.YtkehmidldcggcaaDoor
