/- The program's Ask, where it is answered. -/
import Derived.Test.YtkehmidldcggcaaDoorLu
import Derived.Test.YtkehmidldcggcaaDoorLw
import Derived.Deep.Cut
import Derived.Deep.CutRange
set_option linter.unusedSimpArgs false
set_option linter.unusedVariables false
namespace Go.Proofs.YtkehmidldcggcaaDoor
open Go.RowKit Go.Joins
/-- The state of the call's memory behind the copy: the new state in block R, the lock that is asked for, the answer's place. -/
structure AskAt (w : World) (R B : Nat) (s1 s2 : Value) (l1 l2 : List LK) (x : LK) (W : World) : Prop where
  below : Below w.heap.size w W
  own : OwnPair W B s1 s2 l1 l2
  base : w.heap.size + 1 + 1 < B
  size : B ≤ R
  size2 : R < W.heap.size
  row : W.heap[R]? = some (.cells #[s1, s2] 30 (0, 0))
  far1 : s1.ownBlock ≠ some R
  far2 : s2.ownBlock ≠ some R
  ask : W.heap[w.heap.size + 1]? = some (.cells #[.int .i64 x.t, .string x.s, .int .i64 x.m] 36 (0, 0))
  ans : W.heap[w.heap.size + 1 + 1]? = some (.cells #[.slice none 0 0, .slice none 0 0] 30 (0, 0))
theorem lks_own {w : World} {B n n' cap : Nat} {a : Option Addr} {l : List LK} (h : w.ownsRow B 36 3 (.slice a n cap) n' (flat l)) : LksAt w a l := by
  obtain ⟨-, a', c', he, hl, -⟩ := lks_of_owns h
  cases he; exact hl
theorem own_cap {w : World} {base size n m cap : Nat} {e : TypeId} {a : Option Addr} {xs : List Value} (h : w.ownsRow base e size (.slice a m cap) n xs) : n ≤ cap := by
  rcases h.2 with ⟨h, rfl⟩ | ⟨_, _, _, h, _, _, h3, _⟩
  · exact Nat.zero_le _
  · cases h; exact h3
theorem own_ne' {w : World} {base size n B : Nat} {e : TypeId} {v : Value} {xs : List Value} (h : w.ownsRow base e size v n xs) (hB : w.heap.size ≤ B) : v.ownBlock ≠ some B := fun h' => by have := (own_lt h h').2; omega
theorem AskAt.mode {w : World} {R B : Nat} {s1 s2 : Value} {l1 l2 : List LK} {x : LK} {W : World} (h : AskAt w R B s1 s2 l1 l2 x W) (m : Int) : AskAt w R B s1 s2 l1 l2 ⟨x.t, x.s, m⟩ (W.setCell ⟨w.heap.size + 1, 2, none⟩ (.int .i64 m)) := by
  have z1 := h.base
  have z2 := h.size
  refine ⟨h.below.setCell (by show _ ≤ w.heap.size + 1; omega) _, ⟨ownsRow_setCell_below h.own.1 (by show w.heap.size + 1 < B; omega) _, ownsRow_setCell_below h.own.2.1 (by show w.heap.size + 1 < B; omega) _, h.own.2.2⟩, z1, z2, by simpa [World.setCell] using h.size2, (Below.heap_setCell _ _ _ _ (by show R ≠ w.heap.size + 1; omega)).trans h.row, h.far1, h.far2, ?_, (Below.heap_setCell _ _ _ _ (by show w.heap.size + 1 + 1 ≠ w.heap.size + 1; omega)).trans h.ans⟩
  exact block_setCell h.ask _
theorem AskAt.later {w : World} {R B : Nat} {s1 s2 : Value} {l1 l2 : List LK} {x : LK} {W W' : World} (h : AskAt w R B s1 s2 l1 l2 x W) (hb : Below W.heap.size W W') : AskAt w R B s1 s2 l1 l2 x W' := by
  have z1 := h.base
  have z2 := h.size
  have z3 := h.size2
  exact ⟨h.below.trans (hb.mono h.below.size), h.own.below hb (Nat.le_refl _), z1, z2, by have := hb.size; omega, (hb.block _ z3).trans h.row, h.far1, h.far2, (hb.block _ (by omega)).trans h.ask, (hb.block _ (by omega)).trans h.ans⟩
theorem AskAt.popped {w : World} {R B g cap : Nat} {s1 : Value} {l1 l2 : List LK} {x y : LK} {W : World} (h : AskAt w R B s1 (.slice (some ⟨g, 0, none⟩) (l2.length + 1) cap) l1 (l2 ++ [y]) x W) : AskAt w R B s1 (.slice (some ⟨g, 0, none⟩) l2.length cap) l1 l2 x (W.setCell ⟨R, 1, none⟩ (.slice (some ⟨g, 0, none⟩) l2.length cap)) := by
  have z1 := h.base
  have z2 := h.size
  have z3 := h.size2
  have o2 := h.own.2.1
  rw [List.length_append, flat_snoc] at o2
  have o2 := ownsRow_pop (flat_len l2) o2
  refine ⟨h.below.setCell (p := ⟨R, 1, none⟩) (by show _ ≤ R; omega) _, ⟨ownsRow_setCell_other h.own.1 h.far1 _, ownsRow_setCell_other o2 (show (Value.slice (some ⟨g, 0, none⟩) l2.length cap).ownBlock ≠ some R from h.far2) _, h.own.2.2⟩, z1, z2, by simpa [World.setCell] using z3, block_setCell h.row _, h.far1, h.far2, ?_, ?_⟩
  · exact (Below.heap_setCell _ _ _ _ (by show w.heap.size + 1 ≠ R; omega)).trans h.ask
  · exact (Below.heap_setCell _ _ _ _ (by show w.heap.size + 1 + 1 ≠ R; omega)).trans h.ans
theorem AskAt.had {w : World} {R B : Nat} {s1 s2 v : Value} {l1 l2 : List LK} {x : LK} {W W' : World} (h : AskAt w R B s1 s2 l1 l2 x W) (hr : W'.heap[R]? = some (.cells #[v, s2] 30 (0, 0))) (ho : OwnPair W' B v s2 (haveM x l1) l2) (hf : v.ownBlock ≠ some R) (hk : Keeps (fun k => k = R ∨ s1.ownBlock = some k) W W') : AskAt w R B v s2 (haveM x l1) l2 x W' := by
  have z1 := h.base
  have z2 := h.size
  have z3 := h.size2
  have z4 := h.below.size
  have sB : ∀ k, s1.ownBlock = some k → B ≤ k := fun k hk => (own_lt h.own.1 hk).1
  refine ⟨h.below.trans (hk.toBelow (fun k hk => ?_) z4), ho, z1, z2, by have := hk.size; omega, hr, hf, h.far2, (hk.block _ (by omega) ?_).trans h.ask, (hk.block _ (by omega) ?_).trans h.ans⟩
  · rcases hk with rfl | hk
    · omega
    · have := sB k hk; omega
  · rintro (h' | h')
    · omega
    · have := sB _ h'; omega
  · rintro (h' | h')
    · omega
    · have := sB _ h'; omega
theorem AskAt.drewN {w : World} {R B : Nat} {s1 s2 : Value} {l1 l2 : List LK} {x : LK} {W : World} {n : Nat} (h : AskAt w R B s1 s2 l1 l2 x W) : AskAt w R B s1 s2 l1 l2 x (W.drewN n) :=
  ⟨below_drewN h.below, h.own, h.base, h.size, h.size2, h.row, h.far1, h.far2, h.ask, h.ans⟩
theorem AskAt.drew {w : World} {R B : Nat} {s1 s2 : Value} {l1 l2 : List LK} {x : LK} {W : World} (h : AskAt w R B s1 s2 l1 l2 x W) : AskAt w R B s1 s2 l1 l2 x W.drew :=
  ⟨h.below.drew, h.own, h.base, h.size, h.size2, h.row, h.far1, h.far2, h.ask, h.ans⟩
set_option maxRecDepth 100000 in
set_option maxHeartbeats 4000000 in
theorem Ask_good (a1 a2 : Option Addr) (l1 l2 : List LK) (p1 p2 : Nat) (x : LK) (w : World) (h1 : LksAt w a1 l1) (h2 : LksAt w a2 l2) (n1 : l1.length ≤ 1048576) (n2 : l2.length ≤ 1048576) (q1 : l1.length ≤ p1) (q2 : l2.length ≤ p2) (m1 : ∀ x ∈ l1, x.s.size ≤ maxLen) (m2 : ∀ x ∈ l2, x.s.size ≤ maxLen) (hx : x.s.size ≤ maxLen) (hT : TabFits w) (hJ : TabJoins w)
    (hg : lockGood l1 l2) (hs : shapeM x = 0) (hw : l2.any (sameX x) = false) :
    Calls Tryd.prog 18 #[.agg #[.slice a1 l1.length p1, .slice a2 l2.length p2], .agg #[.int .i64 x.t, .string x.s, .int .i64 x.m]] w (AskPost w (askM l1 l2 x)) := by
  have AR := Lib.hid (ask_rest hg hs hw)
  have H1 := Lib.hid h1
  have H2 := Lib.hid h2
  have M1 := Lib.hid m1
  have M2 := Lib.hid m2
  have HT := Lib.hid hT
  have HJ := Lib.hid hJ
  have HX := Lib.hid hx
  have XM := Lib.hid (shape_mode hs).1
  have MM : Hid (∀ y ∈ l1, modeB y.m = true) := Lib.hid (fun y hy => (shape_mode (hg.2.1 y hy)).1)
  have few := hg.1
  have B3 : Hid (∀ x y z, Below w.heap.size w (((w.alloc x).alloc y).alloc z)) := fun x y z => Joins.below_alloc3 w x y z
  have HCk := fun x y z => check_any a1 a2 l1 l2 p1 p2 (((w.alloc x).alloc y).alloc z) (H1.out.below (B3.out x y z) (Nat.le_refl _)) (H2.out.below (B3.out x y z) (Nat.le_refl _)) n1 n2 q1 q2 M1.out M2.out (HT.out.below (B3.out x y z) HT.out.lt) (HJ.out.below (B3.out x y z) HJ.out.lt)
  rw [chk_yes hg] at HCk
  have HCk' := Lib.hid HCk
  clear HCk
  have HCk := HCk'
  clear HCk'
  obtain ⟨xt, xs, xm⟩ := x
  have HS := fun w1 => shape_any ⟨xt, xs, xm⟩ w1 HX.out
  rw [hs] at HS
  have HS' := Lib.hid HS
  clear HS
  have HS := HS'
  clear HS'
  have HCo := fun w1 (hb : Below w.heap.size w w1) B hB hc => containsFunc_any a2 l2 p2 43 #[.pointer (some ⟨B, 0, none⟩)] (sameX ⟨xt, xs, xm⟩) w1 entersA1 (H2.out.below hb (Nat.le_refl _)) (ask1_pred ⟨xt, xs, xm⟩ B l2 w1 hB hc) (by omega)
  rw [hw] at HCo
  have HCo' := Lib.hid HCo
  clear HCo
  have HCo := HCo'
  clear HCo'
  clear h1 h2 m1 m2 hT hJ hx hg hs hw
  go_enter Tryd.func18, Tryd.ntmps18
  go_upto_region 10 with (first
    | (go_at_call 15; refine (HCk.out _ _ _).mono ?_; rintro e w1 ⟨rfl, hb⟩; have hz := hb.size; (try simp only [World.size_alloc, World.size_setCell, World.size_drew, size_drewN] at hz); (try (have zw1_0 : w.heap.size < w1.heap.size := (by omega))); (try (have cw1_0 := fun o => hb.cell (p := ⟨w.heap.size, o, none⟩) (by (try simp only [World.size_alloc, World.size_setCell, World.size_drew, size_drewN]); omega))); (try (have fw1_0 := fun o => hb.frozen (p := ⟨w.heap.size, o, none⟩) (by (try simp only [World.size_alloc, World.size_setCell, World.size_drew, size_drewN]); omega))); (try (have zw1_1 : w.heap.size + 1 < w1.heap.size := (by omega))); (try (have cw1_1 := fun o => hb.cell (p := ⟨w.heap.size + 1, o, none⟩) (by (try simp only [World.size_alloc, World.size_setCell, World.size_drew, size_drewN]); omega))); (try (have fw1_1 := fun o => hb.frozen (p := ⟨w.heap.size + 1, o, none⟩) (by (try simp only [World.size_alloc, World.size_setCell, World.size_drew, size_drewN]); omega))); (try (have zw1_2 : w.heap.size + 1 + 1 < w1.heap.size := (by omega))); (try (have cw1_2 := fun o => hb.cell (p := ⟨w.heap.size + 1 + 1, o, none⟩) (by (try simp only [World.size_alloc, World.size_setCell, World.size_drew, size_drewN]); omega))); (try (have fw1_2 := fun o => hb.frozen (p := ⟨w.heap.size + 1 + 1, o, none⟩) (by (try simp only [World.size_alloc, World.size_setCell, World.size_drew, size_drewN]); omega))); have hb1 := hb)
    | (go_at_call 34; refine (HS.out _).mono ?_; rintro e w2 ⟨rfl, hb⟩; have hz := hb.size; (try simp only [World.size_alloc, World.size_setCell, World.size_drew, size_drewN] at hz); (try (have zw2_0 : w.heap.size < w2.heap.size := (by omega))); (try (have cw2_0 := fun o => hb.cell (p := ⟨w.heap.size, o, none⟩) (by (try simp only [World.size_alloc, World.size_setCell, World.size_drew, size_drewN]); omega))); (try (have fw2_0 := fun o => hb.frozen (p := ⟨w.heap.size, o, none⟩) (by (try simp only [World.size_alloc, World.size_setCell, World.size_drew, size_drewN]); omega))); (try (have zw2_1 : w.heap.size + 1 < w2.heap.size := (by omega))); (try (have cw2_1 := fun o => hb.cell (p := ⟨w.heap.size + 1, o, none⟩) (by (try simp only [World.size_alloc, World.size_setCell, World.size_drew, size_drewN]); omega))); (try (have fw2_1 := fun o => hb.frozen (p := ⟨w.heap.size + 1, o, none⟩) (by (try simp only [World.size_alloc, World.size_setCell, World.size_drew, size_drewN]); omega))); (try (have zw2_2 : w.heap.size + 1 + 1 < w2.heap.size := (by omega))); (try (have cw2_2 := fun o => hb.cell (p := ⟨w.heap.size + 1 + 1, o, none⟩) (by (try simp only [World.size_alloc, World.size_setCell, World.size_drew, size_drewN]); omega))); (try (have fw2_2 := fun o => hb.frozen (p := ⟨w.heap.size + 1 + 1, o, none⟩) (by (try simp only [World.size_alloc, World.size_setCell, World.size_drew, size_drewN]); omega))); have hb2 := hb)
    | (go_at_call 32; refine (HCo.out _ (by have := B3.out; (repeat' (first | (with_reducible exact Below.refl _ _) | (with_reducible assumption) | (with_reducible refine Below.alloc ?_ ?_ _) | (with_reducible refine Below.drew ?_) | (with_reducible refine below_drewN ?_) | (with_reducible refine Below.setCell ?_ ?_ _) | (with_reducible refine below_step ?_ ?_ (by with_reducible assumption)) | go_size))) (w.heap.size + 1) (by omega) (by go_simp)).mono ?_; rintro e w3 ⟨rfl, hb⟩; have hz := hb.size; (try simp only [World.size_alloc, World.size_setCell, World.size_drew, size_drewN] at hz); (try (have zw3_0 : w.heap.size < w3.heap.size := (by omega))); (try (have cw3_0 := fun o => hb.cell (p := ⟨w.heap.size, o, none⟩) (by (try simp only [World.size_alloc, World.size_setCell, World.size_drew, size_drewN]); omega))); (try (have fw3_0 := fun o => hb.frozen (p := ⟨w.heap.size, o, none⟩) (by (try simp only [World.size_alloc, World.size_setCell, World.size_drew, size_drewN]); omega))); (try (have zw3_1 : w.heap.size + 1 < w3.heap.size := (by omega))); (try (have cw3_1 := fun o => hb.cell (p := ⟨w.heap.size + 1, o, none⟩) (by (try simp only [World.size_alloc, World.size_setCell, World.size_drew, size_drewN]); omega))); (try (have fw3_1 := fun o => hb.frozen (p := ⟨w.heap.size + 1, o, none⟩) (by (try simp only [World.size_alloc, World.size_setCell, World.size_drew, size_drewN]); omega))); (try (have zw3_2 : w.heap.size + 1 + 1 < w3.heap.size := (by omega))); (try (have cw3_2 := fun o => hb.cell (p := ⟨w.heap.size + 1 + 1, o, none⟩) (by (try simp only [World.size_alloc, World.size_setCell, World.size_drew, size_drewN]); omega))); (try (have fw3_2 := fun o => hb.frozen (p := ⟨w.heap.size + 1 + 1, o, none⟩) (by (try simp only [World.size_alloc, World.size_setCell, World.size_drew, size_drewN]); omega))); have hb3 := hb)
    | (go_at_call 44; refine (own_any a1 a2 l1 l2 p1 p2 _ (H1.out.below (by have := B3.out; (repeat' (first | (with_reducible exact Below.refl _ _) | (with_reducible assumption) | (with_reducible refine Below.alloc ?_ ?_ _) | (with_reducible refine Below.drew ?_) | (with_reducible refine below_drewN ?_) | (with_reducible refine Below.setCell ?_ ?_ _) | (with_reducible refine below_step ?_ ?_ (by with_reducible assumption)) | go_size))) (Nat.le_refl _)) (H2.out.below (by have := B3.out; (repeat' (first | (with_reducible exact Below.refl _ _) | (with_reducible assumption) | (with_reducible refine Below.alloc ?_ ?_ _) | (with_reducible refine Below.drew ?_) | (with_reducible refine below_drewN ?_) | (with_reducible refine Below.setCell ?_ ?_ _) | (with_reducible refine below_step ?_ ?_ (by with_reducible assumption)) | go_size))) (Nat.le_refl _)) (by omega) (by omega)).mono ?_; rintro e w4 ⟨⟨v1, v2, rfl, own⟩, hb⟩; have hz := hb.size; (try simp only [World.size_alloc, World.size_setCell, World.size_drew, size_drewN] at hz); have hb4 := hb; obtain ⟨-, b1, d1, rfl, -, -, le1⟩ := lks_of_owns own.1; obtain ⟨-, b2, d2, rfl, -, -, le2⟩ := lks_of_owns own.2.1; have OW := Lib.hid own; clear own))
  have st : AskAt w w4.heap.size w3.heap.size (.slice b1 l1.length d1) (.slice b2 l2.length d2) l1 l2 ⟨xt, xs, xm⟩ (w4.alloc (.cells #[.slice b1 l1.length d1, .slice b2 l2.length d2] 30)) := by
    have := B3.out
    have z1 := hb1.size
    have z2 := hb2.size
    have z3 := hb3.size
    have z4 := hb4.size
    simp at z1
    refine ⟨by (repeat' (first | (with_reducible exact Below.refl _ _) | (with_reducible assumption) | (with_reducible refine Below.alloc ?_ ?_ _) | (with_reducible refine Below.drew ?_) | (with_reducible refine below_drewN ?_) | (with_reducible refine Below.setCell ?_ ?_ _) | (with_reducible refine below_step ?_ ?_ (by with_reducible assumption)) | go_size)), OW.out.below (Joins.below_alloc1 _ _) (Nat.le_refl _), by omega, z4, by simp, new_at _ _ _ rfl, own_ne' OW.out.1 (Nat.le_refl _), own_ne' OW.out.2.1 (Nat.le_refl _), ?_, ?_⟩
    · refine (Below.heap_alloc _ _ _ (by omega)).trans ((hb4.block _ (by omega)).trans ((hb3.block _ (by omega)).trans ((hb2.block _ (by omega)).trans ((hb1.block _ (by simp; try omega)).trans ?_))))
      exact ((Joins.below_alloc1 ((w.alloc _).alloc _) _).block _ (by simp)).trans (new_at _ _ _ (by simp))
    · refine (Below.heap_alloc _ _ _ (by omega)).trans ((hb4.block _ (by omega)).trans ((hb3.block _ (by omega)).trans ((hb2.block _ (by omega)).trans ((hb1.block _ (by simp; try omega)).trans ?_))))
      exact new_at _ _ _ (by simp)
  generalize hW : w4.alloc (.cells #[.slice b1 l1.length d1, .slice b2 l2.length d2] 30) = W at st ⊢
  generalize hR : w4.heap.size = R at st ⊢
  generalize hB : w3.heap.size = B at st
  clear hW hR hB OW hb1 hb2 hb3 hb4 hb HCk HS HCo cw1_0 cw1_1 cw1_2 fw1_0 fw1_1 fw1_2 zw1_0 zw1_1 zw1_2 cw2_0 cw2_1 cw2_2 fw2_0 fw2_1 fw2_2 zw2_0 zw2_1 zw2_2 cw3_0 cw3_1 cw3_2 fw3_0 fw3_1 fw3_2 zw3_0 zw3_1 zw3_2 hz
  have r0 := Joins.cell_of_block st.row 0
  have x0 := Joins.cell_of_block st.ask 0
  have x1 := Joins.cell_of_block st.ask 1
  simp at r0 x0 x1
  have z1 := st.base
  have z2 := st.size
  have z3 := st.size2
  have ST := Lib.hid st
  have HF := find_any b1 l1 d1 xt xs W (lks_own st.own.1) (by omega)
  clear st
  have HF := Lib.hid HF
  go_upto_if 38 with (go_at_call 35; refine HF.out.mono ?_; rintro e w5 ⟨rfl, hb5⟩)
  have s5 : Below W.heap.size W w5 := hb5
  have st5 : AskAt w R B (.slice b1 l1.length d1) (.slice b2 l2.length d2) l1 l2 ⟨xt, xs, xm⟩ w5 := by
    have st := ST.out
    exact ⟨st.below.trans (hb5.mono st.below.size), st.own.below hb5 (Nat.le_refl _), z1, z2, by have := hb5.size; omega, (hb5.block _ (by omega)).trans st.row, st.far1, st.far2, (hb5.block _ (by omega)).trans st.ask, (hb5.block _ (by omega)).trans st.ans⟩
  have ST5 := Lib.hid st5
  clear st5 s5 r0 x0 x1 HF hb5 ST z3
  go_cut [10] from 36 to 59 (fun s10 wx => Hid (∃ x' : LK, AskAt w R B (.slice b1 l1.length d1) (.slice b2 l2.length d2) l1 l2 x' wx ∧ askX l1 ⟨xt, xs, xm⟩ = x' ∧ modeB x'.m = true ∧ ¬(0 < modeM xt xs l1 ∧ x'.m = modeM xt xs l1)))
  case first =>
    rcases find_mode xt xs l1 with ⟨f1, f2, -⟩ | ⟨j, y, f1, f2, f3, f4⟩
    · have F2 := Lib.hid f2
      clear f2
      go_wp2
      go_meet
      refine Lib.hid ⟨_, ST5.out, ?_, XM.out, ?_⟩
      · unfold askX; rw [F2.out, if_neg (by omega)]
      · rw [F2.out]; omega
    · have hjl := (List.getElem?_eq_some_iff.1 f2).1
      obtain ⟨y1, y2⟩ := modeB_iff.1 (MM.out y (List.mem_of_getElem? f2))
      obtain ⟨m1, m2⟩ := modeB_iff.1 XM.out
      obtain ⟨-, a', c', he, -, hform, -⟩ := lks_of_owns ST5.out.own.1
      obtain ⟨g, hb1⟩ : ∃ g, b1 = some ⟨g, 0, none⟩ := by
        simp only [Value.slice.injEq] at he
        rcases hform with h | ⟨g, h, _⟩
        · subst h; simp at hjl
        · exact ⟨g, he.1.trans h⟩
      subst hb1
      have c2 := ST5.out.own.1.cellAt (j * 3 + 2) (by omega)
      rw [flat_at l1 j y f2 2 _ rfl] at c2
      have gB := (own_lt ST5.out.own.1 rfl).1
      have F4 := Lib.hid f4
      obtain ⟨yt, ys, ym⟩ := y
      simp only at y1 y2 c2 f4
      have j1 : (0 : Int) ≤ (j : Int) := by omega
      have j2 : (j : Int) < (l1.length : Int) := by omega
      have m3 : (0 : Int) ≤ ym := by omega
      have m4 : ym < 6 := by omega
      have m5 : (0 : Int) ≤ xm := by omega
      have m6 : xm < 6 := by omega
      have jc := (HJ.out.below ST5.out.below HJ.out.lt).at (a := ym) (b := xm) (by omega) (by omega)
      have jlt := HJ.out.lt
      have k0 := Joins.cell_of_block ST5.out.row 0
      have x2 := Joins.cell_of_block ST5.out.ask 2
      have u2 := Joins.unfrozen_of_block ST5.out.ask 2
      simp at k0 x2
      clear he hform f4 f3 y1 y2 m1 m2
      go_wp2
      refine wp_cut (fun w' : World => w'.cell? ⟨R, 0, none⟩ = some (.slice (some ⟨g, 0, none⟩) l1.length d1) ∧ w'.cell? ⟨g, j * 3 + 2, none⟩ = some (.int .i64 ym) ∧ w'.cell? ⟨w.heap.size + 1, 2, none⟩ = some (.int .i64 xm) ∧ w'.cell? ⟨1, ym.toNat * 6 + xm.toNat, none⟩ = some (.int .i64 (joinB ym xm))) 11 (by kernel_rfl) (by kernel_rfl) (fun inv => ?_)
      ((refine anyT_take (i := 0) (v := ?_) rfl (by kernel_rfl) (by kernel_rfl) (by kernel_rfl) (fun _ _ _ h => h) (Or.inl ⟨by rfl, ?_⟩) ⟨k0, c2, x2, jc⟩ inv (fun inv => ?_); rotate_left; (· (intro w hSw; (try dsimp only at hSw); go_simp; with_reducible rfl)); (try simp only [Act.put, List.getElem_toArray, List.getElem_cons_zero, List.getElem_cons_succ, List.setIfInBounds_toArray, List.set_cons_zero, List.set_cons_succ])); (refine anyT_take (i := 1) (v := ?_) rfl (by kernel_rfl) (by kernel_rfl) (by kernel_rfl) (fun _ _ _ h => h) (Or.inl ⟨by rfl, ?_⟩) ⟨k0, c2, x2, jc⟩ inv (fun inv => ?_); rotate_left; (· (intro w hSw; (try dsimp only at hSw); go_simp; with_reducible rfl)); (try simp only [Act.put, List.getElem_toArray, List.getElem_cons_zero, List.getElem_cons_succ, List.setIfInBounds_toArray, List.set_cons_zero, List.set_cons_succ])); (refine anyT_take (i := 2) (v := ?_) rfl (by kernel_rfl) (by kernel_rfl) (by kernel_rfl) (fun _ _ _ h => h) (Or.inl ⟨by rfl, ?_⟩) ⟨k0, c2, x2, jc⟩ inv (fun inv => ?_); rotate_left; (· (intro w hSw; (try dsimp only at hSw); go_simp; with_reducible rfl)); (try simp only [Act.put, List.getElem_toArray, List.getElem_cons_zero, List.getElem_cons_succ, List.setIfInBounds_toArray, List.set_cons_zero, List.set_cons_succ])); (refine anyT_take (i := 3) (v := ?_) rfl (by kernel_rfl) (by kernel_rfl) (by kernel_rfl) (fun _ _ _ h => h) (Or.inl ⟨by rfl, ?_⟩) ⟨k0, c2, x2, jc⟩ inv (fun inv => ?_); rotate_left; (· (intro w hSw; (try dsimp only at hSw); go_simp; with_reducible rfl)); (try simp only [Act.put, List.getElem_toArray, List.getElem_cons_zero, List.getElem_cons_succ, List.setIfInBounds_toArray, List.set_cons_zero, List.set_cons_succ])); (refine anyT_take (i := 4) (v := ?_) rfl (by kernel_rfl) (by kernel_rfl) (by kernel_rfl) (fun _ _ _ h => h) (Or.inl ⟨by rfl, ?_⟩) ⟨k0, c2, x2, jc⟩ inv (fun inv => ?_); rotate_left; (· (intro w hSw; (try dsimp only at hSw); go_simp; with_reducible rfl)); (try simp only [Act.put, List.getElem_toArray, List.getElem_cons_zero, List.getElem_cons_succ, List.setIfInBounds_toArray, List.set_cons_zero, List.set_cons_succ])); (refine anyT_take (i := 5) (v := ?_) rfl (by kernel_rfl) (by kernel_rfl) (by kernel_rfl) (fun _ _ _ h => h) (Or.inl ⟨by rfl, ?_⟩) ⟨k0, c2, x2, jc⟩ inv (fun inv => ?_); rotate_left; (· (intro w hSw; (try dsimp only at hSw); go_simp; with_reducible rfl)); (try simp only [Act.put, List.getElem_toArray, List.getElem_cons_zero, List.getElem_cons_succ, List.setIfInBounds_toArray, List.set_cons_zero, List.set_cons_succ])); (refine anyT_take (i := 6) (v := ?_) rfl (by kernel_rfl) (by kernel_rfl) (by kernel_rfl) (fun _ _ _ h => h) (Or.inl ⟨by rfl, ?_⟩) ⟨k0, c2, x2, jc⟩ inv (fun inv => ?_); rotate_left; (· (intro w hSw; (try dsimp only at hSw); go_simp; with_reducible rfl)); (try simp only [Act.put, List.getElem_toArray, List.getElem_cons_zero, List.getElem_cons_succ, List.setIfInBounds_toArray, List.set_cons_zero, List.set_cons_succ])); (refine anyT_take (i := 7) (v := ?_) rfl (by kernel_rfl) (by kernel_rfl) (by kernel_rfl) (fun _ _ _ h => h) (Or.inl ⟨by rfl, ?_⟩) ⟨k0, c2, x2, jc⟩ inv (fun inv => ?_); rotate_left; (· (intro w hSw; (try dsimp only at hSw); go_simp; with_reducible rfl)); (try simp only [Act.put, List.getElem_toArray, List.getElem_cons_zero, List.getElem_cons_succ, List.setIfInBounds_toArray, List.set_cons_zero, List.set_cons_succ])); (refine anyT_take (i := 8) (v := ?_) rfl (by kernel_rfl) (by kernel_rfl) (by kernel_rfl) (fun _ _ _ h => h) (Or.inl ⟨by rfl, ?_⟩) ⟨k0, c2, x2, jc⟩ inv (fun inv => ?_); rotate_left; (· (intro w hSw; (try dsimp only at hSw); go_simp; with_reducible rfl)); (try simp only [Act.put, List.getElem_toArray, List.getElem_cons_zero, List.getElem_cons_succ, List.setIfInBounds_toArray, List.set_cons_zero, List.set_cons_succ])); (refine anyT_take (i := 9) (v := ?_) rfl (by kernel_rfl) (by kernel_rfl) (by kernel_rfl) (fun _ _ _ h => h) (Or.inl ⟨by rfl, ?_⟩) ⟨k0, c2, x2, jc⟩ inv (fun inv => ?_); rotate_left; (· (intro w hSw; (try dsimp only at hSw); go_simp; with_reducible rfl)); (try simp only [Act.put, List.getElem_toArray, List.getElem_cons_zero, List.getElem_cons_succ, List.setIfInBounds_toArray, List.set_cons_zero, List.set_cons_succ])); (refine anyT_take (i := 10) (v := ?_) rfl (by kernel_rfl) (by kernel_rfl) (by kernel_rfl) (fun _ _ _ h => h) (Or.inl ⟨by rfl, ?_⟩) ⟨k0, c2, x2, jc⟩ inv (fun inv => ?_); rotate_left; (· (intro w hSw; (try dsimp only at hSw); go_simp; with_reducible rfl)); (try simp only [Act.put, List.getElem_toArray, List.getElem_cons_zero, List.getElem_cons_succ, List.setIfInBounds_toArray, List.set_cons_zero, List.set_cons_succ])))
      (refine anyT_end (by kernel_rfl) ?_; simp only [List.drop_succ_cons, List.drop_zero])
      have st6 := (ST5.out.drew.mode (joinB ym xm))
      have ST6 := Lib.hid st6
      have k0 := Joins.cell_of_block st6.row 0
      have k1 := Joins.cell_of_block st6.row 1
      have x2' := Joins.cell_of_block st6.ask 2
      have c2 := st6.own.1.cellAt (j * 3 + 2) (by omega)
      rw [flat_at l1 j ⟨yt, ys, ym⟩ f2 2 _ rfl] at c2
      have u3 := Joins.unfrozen_of_block st6.ans 0
      have u4 := Joins.unfrozen_of_block st6.ans 1
      have v3 := Joins.cell_of_block st6.ans 0
      have v4 := Joins.cell_of_block st6.ans 1
      simp at k0 k1 x2' v3 v4
      clear st6 jc m3 m4 m5 m6 jlt
      have hd : ∀ (a : Addr) (u : Value), w5.drew.setCell a u = (w5.setCell a u).drew := fun _ _ => rfl
      simp only [hd] at ST6 k0 k1 x2' c2 u3 u4 v3 v4
      clear hd
      have HX2 : askX l1 ⟨xt, xs, xm⟩ = ⟨xt, xs, joinB ym xm⟩ := by
        unfold askX
        rw [F4.out, if_pos (by show (0 : Int) < ym; have := (modeB_iff.1 (MM.out _ (List.mem_of_getElem? f2))).1; simp only at this; omega)]
      have HX2 := Lib.hid HX2
      have hpos : 0 < ym := by have := (modeB_iff.1 (MM.out _ (List.mem_of_getElem? f2))).1; simp only at this; omega
      have hjm : modeB (joinB ym xm) = true := by
        have a := modeB_iff.1 (MM.out _ (List.mem_of_getElem? f2))
        have b := modeB_iff.1 XM.out
        simp only at a
        rcases modes_cases a.1 a.2 with rfl | rfl | rfl | rfl | rfl <;> rcases modes_cases b.1 b.2 with rfl | rfl | rfl | rfl | rfl <;> decide
      have HJM := Lib.hid hjm
      have HPOS := Lib.hid hpos
      clear hjm hpos
      by_cases e3 : joinB ym xm = ym
      · have e3d : (joinB ym xm == ym) = true := by simpa using e3
        have E3 := Lib.hid e3
        clear e3
        go_wp2
        generalize hW6 : (w5.setCell ⟨w.heap.size + 1, 2, none⟩ (.int .i64 (joinB ym xm))).drew = w6 at ST6 k0 k1 x2' c2 u3 u4 v3 v4 ⊢
        clear hW6
        go_quiet (fail)
        generalize hW7 : w6.drewN nq = w7
        have h7 : w7.heap = w6.heap := by rw [← hW7]; rfl
        have ST7 : Hid (AskAt w R B (.slice (some ⟨g, 0, none⟩) l1.length d1) (.slice b2 l2.length d2) l1 l2 ⟨xt, xs, joinB ym xm⟩ w7) := Lib.hid (by rw [← hW7]; exact ST6.out.drewN)
        clear k0 k1 x2' c2 u3 u4 v3 v4 hW7 h7
        have k0 := Joins.cell_of_block ST7.out.row 0
        have k1 := Joins.cell_of_block ST7.out.row 1
        have u3 := Joins.unfrozen_of_block ST7.out.ans 0
        have u4 := Joins.unfrozen_of_block ST7.out.ans 1
        have v3 := Joins.cell_of_block ST7.out.ans 0
        have v4 := Joins.cell_of_block ST7.out.ans 1
        simp at k0 k1 v3 v4
        go_wp2
        ((try simp only [Exit.inBlock, Exit.then]); go_light; refine bodyPost_ret (by simp [results, Tryd.results18, go_sem, *]; try rfl) rfl ?_)
        rw [AR.out, ask_had (by rw [F4.out]; exact HPOS.out) (by rw [F4.out]; exact E3.out)]
        have f1 : (Value.slice (some ⟨g, 0, none⟩) l1.length d1).ownBlock ≠ some (w.heap.size + 1 + 1) := fun h => by have := (own_lt ST7.out.own.1 h).1; omega
        have f2 : (Value.slice b2 l2.length d2).ownBlock ≠ some (w.heap.size + 1 + 1) := fun h => by have := (own_lt ST7.out.own.2.1 h).1; omega
        refine ⟨⟨_, _, _, _, rfl, ?_, ?_⟩, ?_⟩
        · exact lks_own (ownsRow_setCell_other (ownsRow_setCell_other ST7.out.own.1 f1 _) f1 _)
        · exact lks_own (ownsRow_setCell_other (ownsRow_setCell_other ST7.out.own.2.1 f2 _) f2 _)
        · exact (ST7.out.below.setCell (p := ⟨w.heap.size + 1 + 1, 0, none⟩) (by show _ ≤ w.heap.size + 1 + 1; omega) _).setCell (p := ⟨w.heap.size + 1 + 1, 1, none⟩) (by show _ ≤ w.heap.size + 1 + 1; omega) _
      · have e3d : (joinB ym xm == ym) = false := by simpa using e3
        have E3 := Lib.hid e3
        clear e3
        go_wp2
        generalize hW6 : (w5.setCell ⟨w.heap.size + 1, 2, none⟩ (.int .i64 (joinB ym xm))).drew = w6 at ST6 k0 k1 x2' c2 u3 u4 v3 v4 ⊢
        clear hW6
        go_quiet (fail)
        go_wp2
        go_meet
        case rel => exact Lib.hid ⟨_, ST6.out.drewN, HX2.out, HJM.out, by rw [F4.out]; exact fun h => E3.out h.2⟩
  case rest =>
    obtain ⟨x', st, hx', hm', hno⟩ := hcut.out
    obtain ⟨i0, hi0, hz0, hz1, hz2⟩ := info_parts infoLock
    have AR2 := Lib.hid (AR.out.trans (ask_else hx' hno))
    have XM' := Lib.hid hm'
    have ST := Lib.hid st
    obtain ⟨yt, ys, ym⟩ := x'
    have k0 := Joins.cell_of_block st.row 0
    have k1 := Joins.cell_of_block st.row 1
    have x0 := Joins.cell_of_block st.ask 0
    have x1 := Joins.cell_of_block st.ask 1
    have x2 := Joins.cell_of_block st.ask 2
    simp at k0 k1 x0 x1 x2
    have z3 := st.size2
    clear hx' hm' hno st hcut ST5 AR
    go_upto_region 16 with (at_builtin; refine wpList_append_lies _ rfl (.tmp 62) (.tmp 64) 28 rfl B 36 i0 _ 3 32 Tryd.underlying28 hi0 hz0 hz1 hz2 rfl (by decide) (.slice b2 l2.length d2) l2.length (flat l2) rfl (ST.out.own.2.1.alloc _) ⟨wc.heap.size, 0, none⟩ 1 1 [.int .i64 yt, .string ys, .int .i64 ym] rfl rfl (World.news_of_block (cs := #[.int .i64 yt, .string ys, .int .i64 ym]) (t := 36) (fr := (0, 0)) (heap_alloc_new wc _)) (by simp [Value.oneCell']) (by omega) (by unfold maxLen; omega) (by omega) (by simp; omega) (wc.heap.size + 1) (by simp) ?_; intro g cap w6 hown hgrow hat hlt; have r6 := (hgrow.block R (by simp; omega) (Ne.symm ST.out.far2)).trans ((Below.heap_alloc wc _ _ z3).trans ST.out.row); have HO := Lib.hid hown; have HG := Lib.hid hgrow; have HA := Lib.hid hat; have u1 := Joins.cell_of_block r6 1; have u2 := Joins.unfrozen_of_block r6 1; have R6 := Lib.hid r6; simp at u1; clear hown hgrow hat r6)
    have hz6 := HG.out.size
    simp at hz6
    have gR : g ≠ R := by
      rcases HA.out with h | h
      · intro e; subst e; exact ST.out.far2 h
      · omega
    have gB : B ≤ g := (own_lt HO.out rfl).1
    have rowB : ∀ k, (Value.slice b2 l2.length d2).ownBlock = some k → B ≤ k := fun k h => (own_lt ST.out.own.2.1 h).1
    have st7 : AskAt w R B (.slice b1 l1.length d1) (.slice (some ⟨g, 0, none⟩) (l2.length + 1) cap) l1 (l2 ++ [⟨yt, ys, ym⟩]) ⟨yt, ys, ym⟩ (w6.setCell ⟨R, 1, none⟩ (.slice (some ⟨g, 0, none⟩) (l2.length + 1) cap)) := by
      have o1 : w6.ownsRow B 36 3 (.slice b1 l1.length d1) l1.length (flat l1) := ((Keeps.refl (fun k => (Value.slice b2 l2.length d2).ownBlock = some k) (wc.alloc _)).grown HG.out (fun k hk => .inl hk)).own (ST.out.own.1.alloc _) (fun g hg h => ST.out.own.2.2 g hg h)
      refine ⟨?_, ⟨ownsRow_setCell_other o1 ST.out.far1 _, ?_, ?_⟩, z1, z2, by simp [World.setCell]; omega, block_setCell R6.out _, ST.out.far1, by simp [Value.ownBlock]; exact gR, ?_, ?_⟩
      · exact ((ST.out.below.alloc (by have := ST.out.below.size; omega) _).grown HG.out (by simp; omega) (fun k hk => by have := rowB k hk; omega)).setCell (p := ⟨R, 1, none⟩) (by show _ ≤ R; omega) _
      · rw [List.length_append, flat_snoc]
        exact ownsRow_setCell_other HO.out (by simp [Value.ownBlock]; exact gR) _
      · intro g' hg' h
        simp [Value.ownBlock] at h
        subst h
        rcases HA.out with h' | h'
        · exact ST.out.own.2.2 _ hg' h'
        · have := (own_lt ST.out.own.1 hg').2; omega
      · refine (Below.heap_setCell _ _ _ _ (by show w.heap.size + 1 ≠ R; omega)).trans ((HG.out.block _ (by simp; omega) (fun h => by have := rowB _ h.symm; omega)).trans ((Below.heap_alloc _ _ _ (by omega)).trans ST.out.ask))
      · refine (Below.heap_setCell _ _ _ _ (by show w.heap.size + 1 + 1 ≠ R; omega)).trans ((HG.out.block _ (by simp; omega) (fun h => by have := rowB _ h.symm; omega)).trans ((Below.heap_alloc _ _ _ (by omega)).trans ST.out.ans))
    have ST7 := Lib.hid st7
    have hF := first_at b1 (some ⟨g, 0, none⟩) l1 (l2 ++ [⟨yt, ys, ym⟩]) l1.length (l2.length + 1) d1 cap l2.length ⟨yt, ys, ym⟩ _ rfl (by simp) (lks_own st7.own.1) (lks_own st7.own.2.1) (by omega) (by omega) (own_cap HO.out) (HT.out.below st7.below HT.out.lt) (by simp) XM'.out MM.out
    have k0 := Joins.cell_of_block st7.row 0
    have k1 := Joins.cell_of_block st7.row 1
    have x0 := Joins.cell_of_block st7.ask 0
    have x1 := Joins.cell_of_block st7.ask 1
    have x2 := Joins.cell_of_block st7.ask 2
    have z7 := st7.size2
    simp at k0 k1 x0 x1 x2
    generalize hW7 : w6.setCell ⟨R, 1, none⟩ (.slice (some ⟨g, 0, none⟩) (l2.length + 1) cap) = w7 at st7 ST7 hF k0 k1 x0 x1 x2 z7 ⊢
    have en : ((l2.length + 1 : Nat) : Int) - 1 = (l2.length : Int) := by omega
    clear hW7 st7 hz6 rowB HG R6 u1 u2 z3 ST
    generalize hfr : firstM l1 (l2 ++ [⟨yt, ys, ym⟩]) l2.length ⟨yt, ys, ym⟩ = fr at AR2 hF
    have HF := Lib.hid hF
    clear hF hfr
    cases fr
    · go_upto_region 22 with (go_at_call 38; refine HF.out.mono ?_; rintro e w8 ⟨rfl, hb8⟩)
      have st8 := ST7.out.later hb8
      have k0 := Joins.cell_of_block st8.row 0
      have k1 := Joins.cell_of_block st8.row 1
      have x0 := Joins.cell_of_block st8.ask 0
      have x1 := Joins.cell_of_block st8.ask 1
      have x2 := Joins.cell_of_block st8.ask 2
      have v3 := Joins.cell_of_block st8.ans 0
      have v4 := Joins.cell_of_block st8.ans 1
      have u1 := Joins.unfrozen_of_block st8.row 1
      have u3 := Joins.unfrozen_of_block st8.ans 0
      have u4 := Joins.unfrozen_of_block st8.ans 1
      simp at k0 k1 x0 x1 x2 v3 v4
      have ST8 := Lib.hid st8
      have z8 := st8.size2
      clear st8 hb8
      by_cases full : 200 < l1.length + (l2.length + 1)
      · have hd : decide ((200 : Int) < (l1.length : Int) + ((l2.length : Int) + 1)) = true := by simp; omega
        have FU := Lib.hid full
        clear full
        go_wp2
        ((try simp only [Exit.inBlock, Exit.then]); go_light; refine bodyPost_ret (by simp [results, Tryd.results18, go_sem, *]; try rfl) rfl ?_)
        rw [AR2.out, if_neg (by simp), if_pos FU.out]
        refine ⟨⟨none, none, 0, 0, rfl, .inl rfl, .inl rfl⟩, ?_⟩
        exact (ST8.out.below.setCell (p := ⟨w.heap.size + 1 + 1, 0, none⟩) (by show _ ≤ w.heap.size + 1 + 1; omega) _).setCell (p := ⟨w.heap.size + 1 + 1, 1, none⟩) (by show _ ≤ w.heap.size + 1 + 1; omega) _
      · have hd : decide ((200 : Int) < (l1.length : Int) + ((l2.length : Int) + 1)) = false := by simp; omega
        have FU := Lib.hid full
        clear full
        go_wp2
        ((try simp only [Exit.inBlock, Exit.then]); go_light; refine bodyPost_ret (by simp [results, Tryd.results18, go_sem, *]; try rfl) rfl ?_)
        rw [AR2.out, if_neg (by simp), if_neg FU.out]
        have f1 : (Value.slice b1 l1.length d1).ownBlock ≠ some (w.heap.size + 1 + 1) := fun h => by have := (own_lt ST8.out.own.1 h).1; omega
        have f2 : (Value.slice (some ⟨g, 0, none⟩) (l2.length + 1) cap).ownBlock ≠ some (w.heap.size + 1 + 1) := fun h => by have := (own_lt ST8.out.own.2.1 h).1; omega
        refine ⟨⟨b1, some ⟨g, 0, none⟩, d1, cap, by simp, ?_, ?_⟩, ?_⟩
        · exact lks_own (ownsRow_setCell_other (ownsRow_setCell_other ST8.out.own.1 f1 _) f1 _)
        · exact lks_own (ownsRow_setCell_other (ownsRow_setCell_other ST8.out.own.2.1 f2 _) f2 _)
        · exact (ST8.out.below.setCell (p := ⟨w.heap.size + 1 + 1, 0, none⟩) (by show _ ≤ w.heap.size + 1 + 1; omega) _).setCell (p := ⟨w.heap.size + 1 + 1, 1, none⟩) (by show _ ≤ w.heap.size + 1 + 1; omega) _
    · go_upto_region 17 with (go_at_call 38; refine HF.out.mono ?_; rintro e w8 ⟨rfl, hb8⟩)
      have st8 := ST7.out.later hb8
      have k0 := Joins.cell_of_block st8.row 0
      have k1 := Joins.cell_of_block st8.row 1
      have x0 := Joins.cell_of_block st8.ask 0
      have x1 := Joins.cell_of_block st8.ask 1
      have x2 := Joins.cell_of_block st8.ask 2
      have v3 := Joins.cell_of_block st8.ans 0
      have v4 := Joins.cell_of_block st8.ans 1
      have u1 := Joins.unfrozen_of_block st8.row 1
      have u3 := Joins.unfrozen_of_block st8.ans 0
      have u4 := Joins.unfrozen_of_block st8.ans 1
      simp at k0 k1 x0 x1 x2 v3 v4
      have ST8 := Lib.hid st8
      have z8 := st8.size2
      clear st8 hb8
      have cp := own_cap ST8.out.own.2.1
      simp at cp
      have i5 : (l2.length : Int) ≤ (cap : Int) := by omega
      go_upto_region 18 with fail
      have st9 := ST8.out.popped
      have x0 := Joins.cell_of_block st9.ask 0
      have x1 := Joins.cell_of_block st9.ask 1
      have x2 := Joins.cell_of_block st9.ask 2
      simp at x0 x1 x2
      have HV := Lib.hid (have_any R B _ _ l1 l2 ⟨yt, ys, ym⟩ _ st9.row st9.own (by have := st9.size2; omega) st9.far1 st9.far2 (by omega))
      have ST9 := Lib.hid st9
      generalize hW9 : w8.setCell ⟨R, 1, none⟩ (.slice (some ⟨g, 0, none⟩) l2.length cap) = w9 at st9 ST9 HV x0 x1 x2 ⊢
      clear hW9 st9 k0 k1 v3 v4 u1 u3 u4 cp i5 ST8 ST7 HF en z7 z8
      go_upto_region 19 with (go_at_call 45; refine HV.out.mono ?_; rintro e w10 ⟨⟨rfl, v1', r10, own10, far10, -⟩, kp10⟩; have st10 := ST9.out.had r10 own10 far10 kp10; have ST10 := Lib.hid st10; clear r10 own10 far10 kp10 st10)
      have hl := haveM_len ⟨yt, ys, ym⟩ l1
      obtain ⟨-, b3, d3, rfl, -, -, le3⟩ := lks_of_owns ST10.out.own.1
      have k0 := Joins.cell_of_block ST10.out.row 0
      have k1 := Joins.cell_of_block ST10.out.row 1
      have v3 := Joins.cell_of_block ST10.out.ans 0
      have v4 := Joins.cell_of_block ST10.out.ans 1
      have u3 := Joins.unfrozen_of_block ST10.out.ans 0
      have u4 := Joins.unfrozen_of_block ST10.out.ans 1
      simp at k0 k1 v3 v4
      have z10 := ST10.out.size2
      obtain ⟨hl1, hl2⟩ := hl
      clear HV ST9 x0 x1 x2
      by_cases full : 200 < (haveM ⟨yt, ys, ym⟩ l1).length + l2.length
      · have hd : decide ((200 : Int) < ((haveM ⟨yt, ys, ym⟩ l1).length : Int) + (l2.length : Int)) = true := by simp; omega
        have FU := Lib.hid full
        clear full
        go_wp2
        ((try simp only [Exit.inBlock, Exit.then]); go_light; refine bodyPost_ret (by simp [results, Tryd.results18, go_sem, *]; try rfl) rfl ?_)
        rw [AR2.out, if_pos trivial, if_pos FU.out]
        refine ⟨⟨none, none, 0, 0, rfl, .inl rfl, .inl rfl⟩, ?_⟩
        exact (ST10.out.below.setCell (p := ⟨w.heap.size + 1 + 1, 0, none⟩) (by show _ ≤ w.heap.size + 1 + 1; omega) _).setCell (p := ⟨w.heap.size + 1 + 1, 1, none⟩) (by show _ ≤ w.heap.size + 1 + 1; omega) _
      · have hd : decide ((200 : Int) < ((haveM ⟨yt, ys, ym⟩ l1).length : Int) + (l2.length : Int)) = false := by simp; omega
        have FU := Lib.hid full
        clear full
        have HO2 := Lib.hid (own_any b3 (some ⟨g, 0, none⟩) (haveM ⟨yt, ys, ym⟩ l1) l2 d3 cap w10 (lks_own ST10.out.own.1) (lks_own ST10.out.own.2.1) (by omega) (by omega))
        go_wp2_with (go_at_call 44; refine HO2.out.mono ?_; rintro e w11 ⟨⟨v5, v6, rfl, own11⟩, hb11⟩; obtain ⟨-, b5, d5, rfl, -, -, le5⟩ := lks_of_owns own11.1; obtain ⟨-, b6, d6, rfl, -, -, le6⟩ := lks_of_owns own11.2.1; have v3 := cell_later hb11 v3; have v4 := cell_later hb11 v4; have u3 := (hb11.frozen (p := ⟨w.heap.size + 1 + 1, 0, none⟩) (by show w.heap.size + 1 + 1 < _; omega)).trans u3; have u4 := (hb11.frozen (p := ⟨w.heap.size + 1 + 1, 1, none⟩) (by show w.heap.size + 1 + 1 < _; omega)).trans u4; have OW11 := Lib.hid own11; have HB11 := Lib.hid hb11; clear own11 hb11)
        ((try simp only [Exit.inBlock, Exit.then]); go_light; refine bodyPost_ret (by simp [results, Tryd.results18, go_sem, *]; try rfl) rfl ?_)
        rw [AR2.out, if_pos trivial, if_neg FU.out]
        have f1 : (Value.slice b5 (haveM ⟨yt, ys, ym⟩ l1).length d5).ownBlock ≠ some (w.heap.size + 1 + 1) := fun h => by have := (own_lt OW11.out.1 h).1; omega
        have f2 : (Value.slice b6 l2.length d6).ownBlock ≠ some (w.heap.size + 1 + 1) := fun h => by have := (own_lt OW11.out.2.1 h).1; omega
        refine ⟨⟨_, _, _, _, rfl, ?_, ?_⟩, ?_⟩
        · exact lks_own (ownsRow_setCell_other (ownsRow_setCell_other OW11.out.1 f1 _) f1 _)
        · exact lks_own (ownsRow_setCell_other (ownsRow_setCell_other OW11.out.2.1 f2 _) f2 _)
        · exact (((ST10.out.below.trans (HB11.out.mono (by have := ST10.out.below.size; omega)))).setCell (p := ⟨w.heap.size + 1 + 1, 0, none⟩) (by show _ ≤ w.heap.size + 1 + 1; omega) _).setCell (p := ⟨w.heap.size + 1 + 1, 1, none⟩) (by show _ ≤ w.heap.size + 1 + 1; omega) _
end Go.Proofs.YtkehmidldcggcaaDoor
