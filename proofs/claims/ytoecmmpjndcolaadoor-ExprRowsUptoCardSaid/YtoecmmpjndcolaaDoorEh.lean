/- Statements: the reference's tokens out of texts. -/
import Derived.Test.YtoecmmpjndcolaaDoorEc
set_option linter.unusedSimpArgs false
set_option linter.unusedVariables false
namespace Go.AM
open Go Go.RowKit
open Go.Proofs.YtoecmmpjndcolaaDoor (OP nameM litM exprM marksS wordsS StrsAt str SlAt letB wrdB digB bt)
attribute [local irreducible] AWP retA
theorem str_get (l : List UInt8) (i : Nat) : (str l)[i]? = l[i]? := by
  by_cases h : i < l.length
  · have h1 : i < (str l).size := h
    rw [getElem?_def, dif_pos h1, List.getElem?_eq_getElem h]; rfl
  · have h1 : ¬ i < (str l).size := h
    rw [getElem?_def, dif_neg h1, List.getElem?_eq_none (by omega)]
theorem str_size (l : List UInt8) : (str l).size = l.length := by simp [str, ByteArray.size]
theorem ba_ext {a b : ByteArray} (h : a.toList = b.toList) : a = b := by
  rw [Go.Proofs.YtoecmmpjndcolaaDoor.eq_str a, Go.Proofs.YtoecmmpjndcolaaDoor.eq_str b, h]
theorem str_app (a b : List UInt8) : str a ++ str b = str (a ++ b) := by
  apply ba_ext
  rw [Go.Proofs.YtoecmmpjndcolaaDoor.mk_toList, ByteArray.toList_eq, ByteArray.data_append]
  simp [str]
theorem str_ext (l : List UInt8) (i j : Nat) : (str l).extract i j = str ((l.take j).drop i) := by
  apply ba_ext
  rw [Go.Proofs.YtoecmmpjndcolaaDoor.mk_toList, ByteArray.toList_eq]
  simp [str, ByteArray.data_extract, List.drop_take]
def emit : List UInt8 → List TK0
  | [] => []
  | c :: r => [⟨if letB c.toNat = true then 1 else 4, str (c :: r), 0⟩]
def toksG : List UInt8 → List UInt8 → List TK0
  | cur, [] => emit cur
  | cur, c :: r => if c = 32 then emit cur ++ toksG [] r else toksG (cur ++ [c]) r
def toksM (l : List UInt8) : List TK0 := toksG [] l
theorem toksG_word : ∀ (w cur r : List UInt8), (∀ c ∈ w, c ≠ 32) → toksG cur (w ++ r) = toksG (cur ++ w) r
  | [], cur, r, _ => by simp
  | c :: w, cur, r, h => by
    rw [List.cons_append, toksG, if_neg (h c (by simp)), toksG_word w (cur ++ [c]) r (fun x hx => h x (by simp [hx]))]; simp
theorem toksG_blank (cur r : List UInt8) : toksG cur (32 :: r) = emit cur ++ toksG [] r := by rw [toksG, if_pos rfl]
theorem toksG_len : ∀ (l cur : List UInt8), (toksG cur l).length ≤ l.length + 1
  | [], cur => by cases cur <;> simp [toksG, emit]
  | c :: r, cur => by
    rw [toksG]
    split
    · have := toksG_len r []
      cases cur <;> simp [emit] <;> omega
    · have := toksG_len r (cur ++ [c]); simp; omega
theorem wordByte_con (G : List (Nat × List Value)) (c : UInt8) : Con Go.Proofs.Tryd.prog G 95 [.r (.int .u8 c.toNat)] [] 0 (Is (.r (.bool (letB c.toNat))) [] 0) No :=
  con_of_calls (by kernel_rfl) (fun w z vs hz hr hG => by
    obtain ⟨v, r, rfl, h1, h2⟩ := hr.head
    obtain rfl := h1.r_inv
    obtain rfl := h2.of_nil
    have := c.toNat_lt
    exact (Go.Proofs.YtoecmmpjndcolaaDoor.wordByte_any c.toNat w (by omega) (by omega)).mono (fun e w' ⟨he, hw⟩ => by subst hw; exact ⟨he, Below.refl _ _⟩))
def toksI (l : List UInt8) (q : Nat × Nat × List TK0) : Prop := q.2.1 ≤ q.1 ∧ q.1 ≤ l.length + 1 ∧ q.2.2.length ≤ q.1 ∧ (q.1 ≤ l.length → q.2.2 ++ toksG ((l.take q.1).drop q.2.1) (l.drop q.1) = toksM l) ∧ (q.1 = l.length + 1 → q.2.2 = toksM l)
theorem toks_next {l : List UInt8} {i : Nat} {out : List TK0} {q : List TK0} (hi : i < l.length) (h3 : out.length ≤ i) (hq : q.length ≤ out.length + 1) (h : q ++ toksG [] (l.drop (i + 1)) = toksM l) : toksI l (i + 1, i + 1, q) :=
  ⟨Nat.le_refl _, by simp only; omega, by simp only; omega, fun _ => by simp only; rw [List.drop_of_length_le (by simp; omega)]; exact h, fun e => by simp only at e; omega⟩
theorem cur_cons {l : List UInt8} {fr i : Nat} {c : UInt8} (hf : fr < i) (h : l[fr]? = some c) : ∃ tl, (l.take i).drop fr = c :: tl := by
  have : (l.take i)[fr]? = some c := by rw [List.getElem?_take_of_lt hf]; exact h
  exact ⟨_, drop_at this⟩
set_option maxRecDepth 100000 in
set_option maxHeartbeats 8000000 in
theorem toks_con (G : List (Nat × List Value)) (l : List UInt8) (hl : l.length ≤ 1000000) : Con Go.Proofs.Tryd.prog G 75 [.r (.string (str l))] [] 0 (Is (.s 0 0 (toksM l).length) [(0, .lst 61 3 ((toksM l).map eT))] 1) No := by
  refine con_of_awp Go.Proofs.Tryd.func75 rfl (by kernel_rfl) (of_decide_eq_true (by kernel_rfl)) ?_; intro E hG hE; subst hG; simp only [ent]
  (repeat' (first | (refine awp_seq ?_) | (refine awp_block ?_) | (refine awp_skip ?_) | (refine awp_exit ?_) | (refine awp_r (by kernel_rfl) (fun K kp hK hkp => ?_); simp (implicitDefEqProofs := false) (maxSteps := 2000000) (disch := omega) only [go_sem]; (repeat' (first | (refine hK _ ?_; clear hK hkp kp K) | (with_reducible refine And.intro ?_ ?_) | omega)))  | (refine awp_cond_t rfl ?_) | (refine awp_cond_f rfl ?_) | ((refine awp_cond rfl (fun h => ?_) (fun h => ?_) <;> try simp only [decide_eq_true_eq, decide_eq_false_iff_not, Int.not_lt, Int.not_le, Bool.not_eq_true, Bool.not_eq_false, bne_iff_ne, ne_eq, beq_iff_eq, bne_eq_false_iff_eq, beq_eq_false_iff_ne] at h) <;> (try (exfalso; omega))) | (refine awp_ret ?_)))
  (refine AWP.emb (emb_nil 3 61 3 ?_) ?_; (· rfl); dsimp only)
  refine awp_loop (fun q : Nat × Nat × List TK0 => ⟨[(5, .r (.int .i64 q.1)), (4, .r (.int .i64 q.2.1)), (0, .r (.string (str l))), (3, .s 0 0 q.2.2.length)], [(0, .lst 61 3 (q.2.2.map eT))], 1⟩) (toksI l) (fun q => l.length + 1 - q.1) (0, 0, []) ?_ ?_ ?_
  · refine ⟨by simp, by simp, by simp, fun _ => by simp [toksM], fun h => by simp at h⟩
  · (refine emb [0] ?_ ?_ rfl ?_ ?_ ?_ ?_ <;> simp [okM, okO, lk, ren, renL, renNd, by_, hE] <;> (try omega))
  rintro ⟨i, fr, out⟩ ⟨h1, h2, h3, h4, h5⟩
  simp only at h1 h2 h3 h4 h5 ⊢
  by_cases hi : i ≤ l.length
  · have hno := h4 hi
    have d0 : decide ((i : Int) ≤ (l.length : Int)) = true := decide_eq_true (by omega)
    by_cases hlt : i < l.length
    · have d1 : decide ((i : Int) < (l.length : Int)) = true := decide_eq_true (by omega)
      obtain ⟨c, hc⟩ : ∃ c, l[i]? = some c := ⟨l[i], by simp [hlt]⟩
      have hd := drop_at hc
      rw [hd] at hno
      by_cases h32 : c = 32
      · have d2 : ((c.toNat : Int) != 32) = false := by subst h32; rfl
        rw [toksG, if_pos h32] at hno
        by_cases hf : fr < i
        · have d3 : decide ((i : Int) > (fr : Int)) = true := decide_eq_true (by omega)
          obtain ⟨c0, hc0⟩ : ∃ c, l[fr]? = some c := ⟨l[fr]'(by omega), by simp⟩
          obtain ⟨tl, hcur⟩ := cur_cons hf hc0
          have hx := str_ext l fr i
          have hw := wordByte_con E.G c0
          cases hlet : letB c0.toNat
          · rw [hlet] at hw
            have hem : emit ((l.take i).drop fr) = [⟨4, str ((l.take i).drop fr), 0⟩] := by rw [hcur, emit, hlet]; rfl
            (repeat' (first | (refine awp_seq ?_) | (refine awp_block ?_) | (refine awp_skip ?_) | (refine awp_exit ?_) | (refine awp_r (by kernel_rfl) (fun K kp hK hkp => ?_); simp (implicitDefEqProofs := false) (maxSteps := 2000000) (disch := omega) only [go_sem, str_get, str_size, hc, hc0, d0, d1, d2, d3, hx]; (repeat' (first | (refine hK _ ?_; clear hK hkp kp K) | (with_reducible refine And.intro ?_ ?_) | omega)))  | (((first | apply callR_i (hw) | apply callD_i (hw) | apply callX_i (hw)); (case hb => (simp (implicitDefEqProofs := false) (maxSteps := 2000000) (disch := omega) only [go_sem, str_get, str_size, hc, hc0, d0, d1, d2, d3, hx]; first | done | rfl)); (case hp => (first | (simp [-List.map_drop, -List.map_take, str_get, str_size, hc, hc0, d0, d1, d2, d3, hx]; done) | exact .ro _ _ (pt_map _ _))); (case hq => (first | (simp [-List.map_drop, -List.map_take]; done) | (intro _ h; simp only [List.mem_singleton] at h; subst h; exact pt_map _ _)))); simp (implicitDefEqProofs := false) (maxSteps := 2000000) (disch := omega) only [go_sem, str_get, str_size, hc, hc0, d0, d1, d2, d3, hx]; (repeat' (first | (refine hK _ ?_; clear hK hkp kp K) | (with_reducible refine And.intro ?_ ?_) | omega))) | (refine awp_cond_t rfl ?_) | (refine awp_cond_f rfl ?_) | ((refine awp_cond rfl (fun h => ?_) (fun h => ?_) <;> try simp only [decide_eq_true_eq, decide_eq_false_iff_not, Int.not_lt, Int.not_le, Bool.not_eq_true, Bool.not_eq_false, bne_iff_ne, ne_eq, beq_iff_eq, bne_eq_false_iff_eq, beq_eq_false_iff_ne] at h) <;> (try (exfalso; omega))) | (refine awp_ret ?_)))
            ((first | (refine nextB ((i + 1, i + 1, out ++ [⟨4, str ((l.take i).drop fr), 0⟩])) ?_ ?_ ?_) | (refine nextA ((i + 1, i + 1, out ++ [⟨4, str ((l.take i).drop fr), 0⟩])) ?_ ?_ ?_)); rotate_left; (· (try dsimp only); (first | omega | (simp only [List.length_drop, List.length_cons, List.length_append]; omega) | (simp; done) | (simp; omega))); (· (refine emb [2] ?_ ?_ rfl ?_ ?_ ?_ ?_ <;> simp [okM, okO, lk, ren, renL, renNd, by_, hE, eT] <;> (try omega))))
            exact toks_next hlt h3 (by simp) (by rw [← hno, hem]; simp)
          · rw [hlet] at hw
            have hem : emit ((l.take i).drop fr) = [⟨1, str ((l.take i).drop fr), 0⟩] := by rw [hcur, emit, hlet]; rfl
            (repeat' (first | (refine awp_seq ?_) | (refine awp_block ?_) | (refine awp_skip ?_) | (refine awp_exit ?_) | (refine awp_r (by kernel_rfl) (fun K kp hK hkp => ?_); simp (implicitDefEqProofs := false) (maxSteps := 2000000) (disch := omega) only [go_sem, str_get, str_size, hc, hc0, d0, d1, d2, d3, hx]; (repeat' (first | (refine hK _ ?_; clear hK hkp kp K) | (with_reducible refine And.intro ?_ ?_) | omega)))  | (((first | apply callR_i (hw) | apply callD_i (hw) | apply callX_i (hw)); (case hb => (simp (implicitDefEqProofs := false) (maxSteps := 2000000) (disch := omega) only [go_sem, str_get, str_size, hc, hc0, d0, d1, d2, d3, hx]; first | done | rfl)); (case hp => (first | (simp [-List.map_drop, -List.map_take, str_get, str_size, hc, hc0, d0, d1, d2, d3, hx]; done) | exact .ro _ _ (pt_map _ _))); (case hq => (first | (simp [-List.map_drop, -List.map_take]; done) | (intro _ h; simp only [List.mem_singleton] at h; subst h; exact pt_map _ _)))); simp (implicitDefEqProofs := false) (maxSteps := 2000000) (disch := omega) only [go_sem, str_get, str_size, hc, hc0, d0, d1, d2, d3, hx]; (repeat' (first | (refine hK _ ?_; clear hK hkp kp K) | (with_reducible refine And.intro ?_ ?_) | omega))) | (refine awp_cond_t rfl ?_) | (refine awp_cond_f rfl ?_) | ((refine awp_cond rfl (fun h => ?_) (fun h => ?_) <;> try simp only [decide_eq_true_eq, decide_eq_false_iff_not, Int.not_lt, Int.not_le, Bool.not_eq_true, Bool.not_eq_false, bne_iff_ne, ne_eq, beq_iff_eq, bne_eq_false_iff_eq, beq_eq_false_iff_ne] at h) <;> (try (exfalso; omega))) | (refine awp_ret ?_)))
            ((first | (refine nextB ((i + 1, i + 1, out ++ [⟨1, str ((l.take i).drop fr), 0⟩])) ?_ ?_ ?_) | (refine nextA ((i + 1, i + 1, out ++ [⟨1, str ((l.take i).drop fr), 0⟩])) ?_ ?_ ?_)); rotate_left; (· (try dsimp only); (first | omega | (simp only [List.length_drop, List.length_cons, List.length_append]; omega) | (simp; done) | (simp; omega))); (· (refine emb [2] ?_ ?_ rfl ?_ ?_ ?_ ?_ <;> simp [okM, okO, lk, ren, renL, renNd, by_, hE, eT] <;> (try omega))))
            exact toks_next hlt h3 (by simp) (by rw [← hno, hem]; simp)
        · obtain rfl : fr = i := by omega
          have d3 : decide ((fr : Int) > (fr : Int)) = false := decide_eq_false (by omega)
          have hem : emit ((l.take fr).drop fr) = [] := by rw [List.drop_of_length_le (by simp; omega)]; rfl
          rw [hem] at hno
          (repeat' (first | (refine awp_seq ?_) | (refine awp_block ?_) | (refine awp_skip ?_) | (refine awp_exit ?_) | (refine awp_r (by kernel_rfl) (fun K kp hK hkp => ?_); simp (implicitDefEqProofs := false) (maxSteps := 2000000) (disch := omega) only [go_sem, str_get, str_size, hc, d0, d1, d2, d3]; (repeat' (first | (refine hK _ ?_; clear hK hkp kp K) | (with_reducible refine And.intro ?_ ?_) | omega)))  | (refine awp_cond_t rfl ?_) | (refine awp_cond_f rfl ?_) | ((refine awp_cond rfl (fun h => ?_) (fun h => ?_) <;> try simp only [decide_eq_true_eq, decide_eq_false_iff_not, Int.not_lt, Int.not_le, Bool.not_eq_true, Bool.not_eq_false, bne_iff_ne, ne_eq, beq_iff_eq, bne_eq_false_iff_eq, beq_eq_false_iff_ne] at h) <;> (try (exfalso; omega))) | (refine awp_ret ?_)))
          ((first | (refine nextB ((fr + 1, fr + 1, out)) ?_ ?_ ?_) | (refine nextA ((fr + 1, fr + 1, out)) ?_ ?_ ?_)); rotate_left; (· (try dsimp only); (first | omega | (simp only [List.length_drop, List.length_cons, List.length_append]; omega) | (simp; done) | (simp; omega))); (· (refine emb [0] ?_ ?_ rfl ?_ ?_ ?_ ?_ <;> simp [okM, okO, lk, ren, renL, renNd, by_, hE] <;> (try omega))))
          exact toks_next hlt h3 (by omega) (by rw [← hno]; simp)
      · have d2 : ((c.toNat : Int) != 32) = true := by
          simp only [bne_iff_ne, ne_eq]; intro e; have e : c.toNat = 32 := by omega
          exact h32 (UInt8.toNat_inj.1 e)
        (repeat' (first | (refine awp_seq ?_) | (refine awp_block ?_) | (refine awp_skip ?_) | (refine awp_exit ?_) | (refine awp_r (by kernel_rfl) (fun K kp hK hkp => ?_); simp (implicitDefEqProofs := false) (maxSteps := 2000000) (disch := omega) only [go_sem, str_get, str_size, hc, d0, d1, d2]; (repeat' (first | (refine hK _ ?_; clear hK hkp kp K) | (with_reducible refine And.intro ?_ ?_) | omega)))  | (refine awp_cond_t rfl ?_) | (refine awp_cond_f rfl ?_) | ((refine awp_cond rfl (fun h => ?_) (fun h => ?_) <;> try simp only [decide_eq_true_eq, decide_eq_false_iff_not, Int.not_lt, Int.not_le, Bool.not_eq_true, Bool.not_eq_false, bne_iff_ne, ne_eq, beq_iff_eq, bne_eq_false_iff_eq, beq_eq_false_iff_ne] at h) <;> (try (exfalso; omega))) | (refine awp_ret ?_)))
        ((first | (refine nextB ((i + 1, fr, out)) ?_ ?_ ?_) | (refine nextA ((i + 1, fr, out)) ?_ ?_ ?_)); rotate_left; (· (try dsimp only); (first | omega | (simp only [List.length_drop, List.length_cons, List.length_append]; omega) | (simp; done) | (simp; omega))); (· (refine emb [0] ?_ ?_ rfl ?_ ?_ ?_ ?_ <;> simp [okM, okO, lk, ren, renL, renNd, by_, hE] <;> (try omega))))
        refine ⟨by simp; omega, by simp; omega, by simp; omega, fun _ => ?_, fun h => ?_⟩
        · simp only
          rw [← hno, toksG, if_neg h32, List.take_add_one, hc, Option.toList, List.drop_append_of_le_length (by simp; omega)]
        · simp only at h; omega
    · obtain rfl : i = l.length := by omega
      have d1 : decide ((l.length : Int) < (l.length : Int)) = false := decide_eq_false (by omega)
      rw [List.drop_length, toksG] at hno
      by_cases hf : fr < l.length
      · have d3 : decide ((l.length : Int) > (fr : Int)) = true := decide_eq_true (by omega)
        obtain ⟨c0, hc0⟩ : ∃ c, l[fr]? = some c := ⟨l[fr]'(by omega), by simp⟩
        obtain ⟨tl, hcur⟩ := cur_cons hf hc0
        have hx := str_ext l fr l.length
        have hw := wordByte_con E.G c0
        cases hlet : letB c0.toNat
        · rw [hlet] at hw
          have hem : emit ((l.take l.length).drop fr) = [⟨4, str ((l.take l.length).drop fr), 0⟩] := by rw [hcur, emit, hlet]; rfl
          (repeat' (first | (refine awp_seq ?_) | (refine awp_block ?_) | (refine awp_skip ?_) | (refine awp_exit ?_) | (refine awp_r (by kernel_rfl) (fun K kp hK hkp => ?_); simp (implicitDefEqProofs := false) (maxSteps := 2000000) (disch := omega) only [go_sem, str_get, str_size, hc0, d0, d1, d3, hx]; (repeat' (first | (refine hK _ ?_; clear hK hkp kp K) | (with_reducible refine And.intro ?_ ?_) | omega)))  | (((first | apply callR_i (hw) | apply callD_i (hw) | apply callX_i (hw)); (case hb => (simp (implicitDefEqProofs := false) (maxSteps := 2000000) (disch := omega) only [go_sem, str_get, str_size, hc0, d0, d1, d3, hx]; first | done | rfl)); (case hp => (first | (simp [-List.map_drop, -List.map_take, str_get, str_size, hc0, d0, d1, d3, hx]; done) | exact .ro _ _ (pt_map _ _))); (case hq => (first | (simp [-List.map_drop, -List.map_take]; done) | (intro _ h; simp only [List.mem_singleton] at h; subst h; exact pt_map _ _)))); simp (implicitDefEqProofs := false) (maxSteps := 2000000) (disch := omega) only [go_sem, str_get, str_size, hc0, d0, d1, d3, hx]; (repeat' (first | (refine hK _ ?_; clear hK hkp kp K) | (with_reducible refine And.intro ?_ ?_) | omega))) | (refine awp_cond_t rfl ?_) | (refine awp_cond_f rfl ?_) | ((refine awp_cond rfl (fun h => ?_) (fun h => ?_) <;> try simp only [decide_eq_true_eq, decide_eq_false_iff_not, Int.not_lt, Int.not_le, Bool.not_eq_true, Bool.not_eq_false, bne_iff_ne, ne_eq, beq_iff_eq, bne_eq_false_iff_eq, beq_eq_false_iff_ne] at h) <;> (try (exfalso; omega))) | (refine awp_ret ?_)))
          ((first | (refine nextB ((l.length + 1, l.length + 1, out ++ [⟨4, str ((l.take l.length).drop fr), 0⟩])) ?_ ?_ ?_) | (refine nextA ((l.length + 1, l.length + 1, out ++ [⟨4, str ((l.take l.length).drop fr), 0⟩])) ?_ ?_ ?_)); rotate_left; (· (try dsimp only); (first | omega | (simp only [List.length_drop, List.length_cons, List.length_append]; omega) | (simp; done) | (simp; omega))); (· (refine emb [2] ?_ ?_ rfl ?_ ?_ ?_ ?_ <;> simp [okM, okO, lk, ren, renL, renNd, by_, hE, eT] <;> (try omega))))
          refine ⟨by simp, by simp, by simp; omega, fun h => by simp at h; omega, fun _ => by rw [← hno, hem]⟩
        · rw [hlet] at hw
          have hem : emit ((l.take l.length).drop fr) = [⟨1, str ((l.take l.length).drop fr), 0⟩] := by rw [hcur, emit, hlet]; rfl
          (repeat' (first | (refine awp_seq ?_) | (refine awp_block ?_) | (refine awp_skip ?_) | (refine awp_exit ?_) | (refine awp_r (by kernel_rfl) (fun K kp hK hkp => ?_); simp (implicitDefEqProofs := false) (maxSteps := 2000000) (disch := omega) only [go_sem, str_get, str_size, hc0, d0, d1, d3, hx]; (repeat' (first | (refine hK _ ?_; clear hK hkp kp K) | (with_reducible refine And.intro ?_ ?_) | omega)))  | (((first | apply callR_i (hw) | apply callD_i (hw) | apply callX_i (hw)); (case hb => (simp (implicitDefEqProofs := false) (maxSteps := 2000000) (disch := omega) only [go_sem, str_get, str_size, hc0, d0, d1, d3, hx]; first | done | rfl)); (case hp => (first | (simp [-List.map_drop, -List.map_take, str_get, str_size, hc0, d0, d1, d3, hx]; done) | exact .ro _ _ (pt_map _ _))); (case hq => (first | (simp [-List.map_drop, -List.map_take]; done) | (intro _ h; simp only [List.mem_singleton] at h; subst h; exact pt_map _ _)))); simp (implicitDefEqProofs := false) (maxSteps := 2000000) (disch := omega) only [go_sem, str_get, str_size, hc0, d0, d1, d3, hx]; (repeat' (first | (refine hK _ ?_; clear hK hkp kp K) | (with_reducible refine And.intro ?_ ?_) | omega))) | (refine awp_cond_t rfl ?_) | (refine awp_cond_f rfl ?_) | ((refine awp_cond rfl (fun h => ?_) (fun h => ?_) <;> try simp only [decide_eq_true_eq, decide_eq_false_iff_not, Int.not_lt, Int.not_le, Bool.not_eq_true, Bool.not_eq_false, bne_iff_ne, ne_eq, beq_iff_eq, bne_eq_false_iff_eq, beq_eq_false_iff_ne] at h) <;> (try (exfalso; omega))) | (refine awp_ret ?_)))
          ((first | (refine nextB ((l.length + 1, l.length + 1, out ++ [⟨1, str ((l.take l.length).drop fr), 0⟩])) ?_ ?_ ?_) | (refine nextA ((l.length + 1, l.length + 1, out ++ [⟨1, str ((l.take l.length).drop fr), 0⟩])) ?_ ?_ ?_)); rotate_left; (· (try dsimp only); (first | omega | (simp only [List.length_drop, List.length_cons, List.length_append]; omega) | (simp; done) | (simp; omega))); (· (refine emb [2] ?_ ?_ rfl ?_ ?_ ?_ ?_ <;> simp [okM, okO, lk, ren, renL, renNd, by_, hE, eT] <;> (try omega))))
          refine ⟨by simp, by simp, by simp; omega, fun h => by simp at h; omega, fun _ => by rw [← hno, hem]⟩
      · obtain rfl : fr = l.length := by omega
        have d3 : decide ((l.length : Int) > (l.length : Int)) = false := decide_eq_false (by omega)
        have hem : emit ((l.take l.length).drop l.length) = [] := by rw [List.drop_of_length_le (by simp)]; rfl
        rw [hem] at hno
        (repeat' (first | (refine awp_seq ?_) | (refine awp_block ?_) | (refine awp_skip ?_) | (refine awp_exit ?_) | (refine awp_r (by kernel_rfl) (fun K kp hK hkp => ?_); simp (implicitDefEqProofs := false) (maxSteps := 2000000) (disch := omega) only [go_sem, str_get, str_size, d0, d1, d3]; (repeat' (first | (refine hK _ ?_; clear hK hkp kp K) | (with_reducible refine And.intro ?_ ?_) | omega)))  | (refine awp_cond_t rfl ?_) | (refine awp_cond_f rfl ?_) | ((refine awp_cond rfl (fun h => ?_) (fun h => ?_) <;> try simp only [decide_eq_true_eq, decide_eq_false_iff_not, Int.not_lt, Int.not_le, Bool.not_eq_true, Bool.not_eq_false, bne_iff_ne, ne_eq, beq_iff_eq, bne_eq_false_iff_eq, beq_eq_false_iff_ne] at h) <;> (try (exfalso; omega))) | (refine awp_ret ?_)))
        ((first | (refine nextB ((l.length + 1, l.length + 1, out)) ?_ ?_ ?_) | (refine nextA ((l.length + 1, l.length + 1, out)) ?_ ?_ ?_)); rotate_left; (· (try dsimp only); (first | omega | (simp only [List.length_drop, List.length_cons, List.length_append]; omega) | (simp; done) | (simp; omega))); (· (refine emb [0] ?_ ?_ rfl ?_ ?_ ?_ ?_ <;> simp [okM, okO, lk, ren, renL, renNd, by_, hE] <;> (try omega))))
        refine ⟨by simp, by simp, by simp; omega, fun h => by simp at h; omega, fun _ => by rw [← hno]; simp⟩
  · obtain rfl : i = l.length + 1 := by omega
    have d0 : decide ((l.length : Int) + 1 ≤ (l.length : Int)) = false := decide_eq_false (by omega)
    obtain rfl := h5 rfl
    (repeat' (first | (refine awp_seq ?_) | (refine awp_block ?_) | (refine awp_skip ?_) | (refine awp_exit ?_) | (refine awp_r (by kernel_rfl) (fun K kp hK hkp => ?_); simp (implicitDefEqProofs := false) (maxSteps := 2000000) (disch := omega) only [go_sem, str_size, d0]; (repeat' (first | (refine hK _ ?_; clear hK hkp kp K) | (with_reducible refine And.intro ?_ ?_) | omega)))  | (refine awp_cond_t rfl ?_) | (refine awp_cond_f rfl ?_) | ((refine awp_cond rfl (fun h => ?_) (fun h => ?_) <;> try simp only [decide_eq_true_eq, decide_eq_false_iff_not, Int.not_lt, Int.not_le, Bool.not_eq_true, Bool.not_eq_false, bne_iff_ne, ne_eq, beq_iff_eq, bne_eq_false_iff_eq, beq_eq_false_iff_ne] at h) <;> (try (exfalso; omega))) | (refine awp_ret ?_)))
    (refine retA_is (by (simp (implicitDefEqProofs := false) (maxSteps := 2000000) (disch := omega) only [go_sem, Go.Proofs.Tryd.results75]); rfl) ?_; refine (embV [0] ?_ ?_ ?_ ?_ ?_ ?_).s <;> simp [oneA, okO, lk, ren, renL, renNd, by_, hE])
end Go.AM
