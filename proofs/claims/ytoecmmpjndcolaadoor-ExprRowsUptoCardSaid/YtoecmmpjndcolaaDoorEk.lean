/- Statements: names that may be; columns that may be. -/
import Derived.Test.YtoecmmpjndcolaaDoorEj
set_option linter.unusedSimpArgs false
set_option linter.unusedVariables false
namespace Go.AM
open Go Go.RowKit
open Go.Proofs.YtoecmmpjndcolaaDoor (OP nameM litM exprM marksS wordsS StrsAt str SlAt letB wrdB digB bt tokM wordS hasS spanM)
theorem good_of_name {s : ByteArray} (h : nameM s = 0) : goodN s := by
  obtain ⟨l, rfl⟩ : ∃ l, s = str l := ⟨_, Go.Proofs.YtoecmmpjndcolaaDoor.eq_str s⟩
  have hsz : (str l).size = l.length := str_size l
  unfold nameM at h
  split at h
  · cases h
  rename_i h8
  split at h
  · cases h
  rename_i h1
  have h2 : wordS (str l) = true := by
    cases hw : wordS (str l) with
    | true => rfl
    | false => exact (h1 (.inl (by simp [tokM, hw]))).elim
  simp only [wordS, Bool.and_eq_true, decide_eq_true_eq] at h2
  obtain ⟨⟨g1, g2⟩, g3⟩ := h2
  have hall := ((Go.Proofs.YtoecmmpjndcolaaDoor.spanM_all wrdB (str l) (str l).size 0 (by omega) (by omega)).1.1 g3)
  refine ⟨by rw [Go.Proofs.YtoecmmpjndcolaaDoor.mk_toList]; omega, ?_, ?_⟩
  · rw [Go.Proofs.YtoecmmpjndcolaaDoor.mk_toList]
    match l, g2 with
    | [], g2 => rw [str_size] at g1; simp at g1
    | c :: r, g2 =>
      rw [Go.Proofs.YtoecmmpjndcolaaDoor.bt_str] at g2
      exact ⟨c, r, rfl, by simpa using g2⟩
  · rw [Go.Proofs.YtoecmmpjndcolaaDoor.mk_toList]
    rintro c hc rfl
    obtain ⟨j, hj⟩ := List.mem_iff_getElem?.1 hc
    have hjl := (List.getElem?_eq_some_iff.1 hj).1
    have := hall j (by omega) (by omega)
    rw [Go.Proofs.YtoecmmpjndcolaaDoor.bt_str, hj] at this
    simp [wrdB, letB, digB] at this
theorem colsFrom_ok : ∀ (l p : List CO), colsFrom p l = 0 → ∀ c ∈ l, goodC c ∧ goodN c.nm
  | [], _, _ => by simp
  | c :: r, p, h => by
    unfold colsFrom at h
    split at h
    · rename_i hn; exact absurd h hn
    rename_i hn
    split at h
    · cases h
    rename_i hk
    split at h
    · cases h
    intro x hx
    rcases List.mem_cons.1 hx with rfl | hx
    · exact ⟨⟨by omega, by omega⟩, good_of_name (by simpa using hn)⟩
    · exact colsFrom_ok r _ h x hx
theorem colsM_ok {l : List CO} (h : colsM l = 0) : 1 ≤ l.length ∧ l.length ≤ 6 ∧ ∀ c ∈ l, goodC c ∧ goodN c.nm := by
  unfold colsM at h
  split at h
  · cases h
  · exact ⟨by omega, by omega, colsFrom_ok l [] h⟩
theorem commas_two : ∀ (l : List CO), (commas (l.map colT)).length ≤ 3 * l.length
  | [] => by simp [commas]
  | [a] => by simp [commas, colT]
  | a :: b :: r => by
    have := commas_two (b :: r)
    simp only [List.map_cons] at this ⊢
    rw [commas_cc]; simp [colT] at this ⊢; omega
/-- The statement that columns are checked by. -/
def s0 (l : List CO) : ST := ⟨1, str [116], l, [], [], false, [], str [], false, -1, str [], []⟩
theorem name_t : nameM (str [116]) = 0 := by
  have h1 : tokM 1 (str [116]) 0 = 0 := by
    have : wordS (str [116]) = true := by decide +kernel
    simp [tokM, this]
  have h2 : hasS wordsS (str [116]) = false := by
    simp only [hasS, wordsS, Go.Proofs.YtoecmmpjndcolaaDoor.wordsL, List.map_cons, List.map_nil, List.any_cons, List.any_nil, Go.Proofs.YtoecmmpjndcolaaDoor.mk_toList]
    decide +kernel
  rw [nameM, if_neg (by rw [str_size]; simp), if_neg (by rw [h1, h2]; simp)]
theorem create_len {l : List CO} (h : l.length ≤ 6) : (createT (s0 l)).length ≤ 100 := by
  have := commas_two l
  simp [createT, s0, listM]; omega
end Go.AM
