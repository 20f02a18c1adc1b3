/- The abstract machine, 8: the operations that make memory or write it. -/
import Derived.Test.YtoecmmpjndcolaaDoorQg
set_option linter.unusedSimpArgs false
set_option linter.unusedVariables false
namespace Go.AM
open Go
def putNd (st : AS) (nd : Nd) : AS := { st with o := (st.n, nd) :: st.o, n := st.n + 1 }
def setNd (st : AS) (i : Nat) (nd : Nd) : AS := { st with o := (i, nd) :: st.o }
/-- The elements of a slice literal, all given, in order. -/
def elsL (sz : Nat) : Nat → List Nat → List AV → Option (List (List AV))
  | _, [], [] => some []
  | i, j :: is, x :: r => if j = i ∧ x.cells.length = sz ∧ x.okPart = true ∧ x.cells.all AV.cell1 = true then (elsL sz (i + 1) is r).map (x.cells :: ·) else none
  | _, _, _ => none
/-- What is appended. -/
def srcA (st : AS) (k : Nat) (yt : TK) (x : AV) : Option (List (List AV)) :=
  match yt with
  | .slice _ => elemsOf st k x
  | .str => match x with
    | .r (.string s) => if k = 1 then some (s.data.toList.map eByte) else none
    | _ => none
  | _ => none
def eff (P : Program) (G : List (Nat × List Value)) (st : AS) (op : Op) (k : AV → AS → Prop) : Prop :=
  match op with
  | .box T x => match tyOf P T, ev st G x with
    | some _, some x => x.okPart = true ∧ k (.p st.n 0 0) (putNd st (.box T x.cells))
    | _, _ => False
  | .alloc T => match tyOf P T with
    | some ⟨_, _, _, some zs⟩ => k (.p st.n 0 0) (putNd st (.box T (zs.map .r)))
    | _ => False
  | .buildSlice T len parts => match tyOf P T, evs st G (parts.toList.map (·.2)) with
    | some ⟨.slice e, _, _, _⟩, some c => match tyOf P e, frzL st c with
      | some ⟨_, sz, _, some _⟩, some (c', st') => match elsL sz 0 (parts.toList.map (·.1)) c' with
        | some els => (len = els.length ∧ len * sz ≤ 16777216) ∧ k (.s st'.n 0 len) (putNd st' (.lst e sz els))
        | none => False
      | _, _ => False
    | _, _ => False
  | .store T x v => match tyOf P T, ev st G x, ev st G v with
    | some y, some (.p n i off), some v => match lk st.o n with
      | some (.box T' c) => if i = 0 ∧ v.cells.length = y.size ∧ off + y.size ≤ c.length ∧ v.okPart = true ∧ v.cells.all AV.cell1 = true then k (.r (.tuple #[])) (setNd st n (.box T' (splice c off v.cells))) else False
      | some (.lst T' k' els) => match frz st v with
        | some (v', st') => match lk st'.o n, els[i]? with
          | some (.lst _ _ _), some e => (v'.cells.length = y.size ∧ off + y.size ≤ e.length ∧ v'.okPart = true ∧ v'.cells.all AV.cell1 = true) ∧ k (.r (.tuple #[])) (setNd st' n (.lst T' k' (els.set i (splice e off v'.cells))))
          | _, _ => False
        | none => False
      | none => False
    | _, _, _ => False
  | .call { callee := .builtin .append, args, argTypes } => match evs st G args.toList, argTypes.toList with
    | some [b, x], [T, T'] => match tyOf P T, tyOf P T' with
      | some ⟨.slice e, _, _, _⟩, some y' => match tyOf P e with
        | some ⟨_, sz, bytes, some zs⟩ => match srcA st sz y'.k x with
          | some new => match b with
            | .r (.slice none 0 0) => (zs.length = sz ∧ 0 < sz ∧ new.length * bytes ≤ 140737488355328 ∧ new.length ≤ 9223372036854775807) ∧ k (.s st.n 0 new.length) (putNd st (.lst e sz new))
            | .s n lo len => match lk st.o n with
              | some (.lst T2 k' els) => (T2 = e ∧ zs.length = sz ∧ k' = sz ∧ 0 < sz ∧ lo + len ≤ els.length ∧ (len + new.length) * bytes ≤ 140737488355328 ∧ len + new.length ≤ 9223372036854775807) ∧
                  k (.s st.n 0 (len + new.length)) (putNd { st with o := rm st.o n } (.lst e sz ((els.drop lo).take len ++ new)))
              | _ => False
            | _ => False
          | none => False
        | _ => False
      | _, _ => False
    | _, _ => False
  | .makeSlice T l c => match tyOf P T, ev st G l, ev st G c with
    | some ⟨.slice e, _, _, _⟩, some (.r (.int _ n)), some (.r (.int _ n')) => match tyOf P e with
      | some ⟨_, sz, bytes, some zs⟩ => (n = n' ∧ 0 ≤ n ∧ n ≤ 9223372036854775807 ∧ n * bytes ≤ 281474976710656 ∧ 0 < sz ∧ zs.length = sz ∧ zs.all Value.oneCell' = true) ∧ k (.s st.n 0 n.toNat) (putNd st (.lst e sz (List.replicate n.toNat (zs.map .r))))
      | _ => False
    | _, _, _ => False
  | _ => False
section
variable {P : Program} {E : Env} {N : Nat} {st : AS} {th : List NLoc} {z : Zone} {a : Act} {w : World}
/-- The own things that an operation writes into. -/
def tch (st : AS) (G : List (Nat × List Value)) : Op → List Nat
  | .store _ x _ => match ev st G x with
    | some (.p n _ _) => [n]
    | _ => []
  | .call { callee := .builtin .append, args, .. } => match evs st G args.toList with
    | some (.s n _ _ :: _) => [n]
    | _ => []
  | _ => []
/-- What an effect comes to. -/
def Eff (P : Program) (E : Env) (N : Nat) (o : Oper) (a : Act) (w : World) (th : List NLoc) (ts : List Nat) (m : List (Nat × AV)) (k : AV → AS → Prop) (grows : Bool) : Prop :=
  ∃ v x st' th' z' w', ((execOp a.eval o).run P w = .ok (.value v) w' ∨ ((execOp a.eval o).run P w = .ok .skip w' ∧ v = undef)) ∧ k x st' ∧ Sim E N st' th' z' a w' ∧ Rep w' z' th' x v ∧ st'.m = m ∧ (grows = true → Ext w w') ∧ Later th th' ∧ ExtT th ts w w'
theorem all_get {l : List AV} {p : AV → Bool} (h : l.all p = true) {i : Nat} {x : AV} (hi : l[i]? = some x) : p x = true := List.all_eq_true.1 h x (List.mem_of_getElem? hi)
theorem eff_box (h : Sim E N st th z a w) {T : TypeId} {X : Operand} {d : Option Nat} {t : TypeId} {pos : String} {aft : Array Edge} {g : Option (Nat × Bool)} {k : AV → AS → Prop} (hk : eff P E.G st (.box T X) k) : Eff P E N ⟨d, .box T X, t, pos, aft, g⟩ a w th [] st.m k true := by
  simp only [eff] at hk
  split at hk
  · rename_i x hT he
    obtain ⟨ho, hk⟩ := hk
    obtain ⟨L, h1, h2, h3⟩ := h.box T (ev_sound h he) ho
    exact ⟨_, _, _, th ++ [L], z, _, .inl rfl, hk, h1, h2, rfl, fun _ => h3, later_app _ _, h3.t⟩
  · exact hk.elim
theorem eff_alloc (h : Sim E N st th z a w) {T : TypeId} {d : Option Nat} {t : TypeId} {pos : String} {aft : Array Edge} {g : Option (Nat × Bool)} {k : AV → AS → Prop} (hk : eff P E.G st (.alloc T) k) : Eff P E N ⟨d, .alloc T, t, pos, aft, g⟩ a w th [] st.m k true := by
  simp only [eff] at hk
  split at hk
  · rename_i kk sz by' zs hT
    obtain ⟨v0, hz⟩ := run_zero_any hT
    have e := ext_alloc w (.cells v0.cells T)
    have hS := h.add e ⟨w.heap.size, 0, 0, 1, false⟩ (.box T (zs.map .r)) (Nat.le_refl _) (by simp) ⟨rfl, v0.cells, (0, 0), new_heap _ _, fun i _ => by simp, rfl, by rw [(hz w).2]; exact Reps.plain zs⟩
    exact ⟨.pointer (some ⟨w.heap.size, 0, none⟩), _, _, _, z, _, .inl (by simp only [execOp, Instr.alloc, Sem.run_bind, (hz w).1, Result.andThen_ok]; rfl), hk, hS, .p _ _ 0 0 _ (h.get_new _), rfl, fun _ => e, later_app _ _, e.t⟩
  · exact hk.elim
theorem flatten_get {α : Type} {k : Nat} : ∀ {ls : List (List α)}, (∀ l ∈ ls, l.length = k) → ∀ {i j : Nat} {l : List α} {x : α}, ls[i]? = some l → l[j]? = some x → ls.flatten[i * k + j]? = some x
  | [], _, i, j, l, x, h, _ => by simp at h
  | y :: r, hl, 0, j, l, x, h, hx => by
    simp at h; subst h
    have hj : j < y.length := (List.getElem?_eq_some_iff.1 hx).1
    rw [List.flatten_cons, Nat.zero_mul, Nat.zero_add, List.getElem?_append_left hj]; exact hx
  | y :: r, hl, i + 1, j, l, x, h, hx => by
    have hy := hl y (by simp)
    rw [List.flatten_cons, List.getElem?_append_right (by rw [hy, Nat.add_mul]; omega), hy, show (i + 1) * k + j - k = i * k + j by rw [Nat.add_mul]; omega]
    exact flatten_get (fun l hl' => hl l (by simp [hl'])) (by simpa using h) hx
theorem elsL_sound {sz : Nat} : ∀ (is : List Nat) (c : List AV) (i : Nat) (vs : List Value) (els : List (List AV)) (ys : Array Value), elsL sz i is c = some els → Reps w z [] c vs → (i + els.length) * sz ≤ ys.size →
    ∃ us : Array Value, ∃ cs : List (List Value), Instr.fill (fun i => some (i * sz, sz)) ys (is.zip vs) = some us ∧ us.toList = ys.toList.take (i * sz) ++ cs.flatten ++ ys.toList.drop ((i + els.length) * sz) ∧ cs.length = els.length ∧ (∀ l ∈ cs, l.length = sz) ∧
      (∀ l ∈ els, l.length = sz) ∧ ∀ (j : Nat) (e : List AV) (d : List Value), els[j]? = some e → cs[j]? = some d → Reps w z [] e d ∧ ∀ u ∈ d, u.oneCell' = true
  | [], [], i, vs, els, ys, h, hr, hle => by
    simp only [elsL, Option.some.injEq] at h; subst h
    exact ⟨ys, [], by simp [Instr.fill], by simp, rfl, by simp, by simp, by simp⟩
  | j :: is, x :: r, i, vs, els, ys, h, hr, hle => by
    simp only [elsL] at h
    split at h
    · rename_i hc; obtain ⟨rfl, h2, h3, h4⟩ := hc
      simp only [Option.map_eq_some_iff] at h
      obtain ⟨els', h5, rfl⟩ := h
      obtain ⟨v, vs', rfl, hv, hvs⟩ := hr.head
      have hcells := cells_sound hv h3
      have hsz : v.cells.size = sz := by
        have := hcells.1; rw [h2] at this; simpa using this
      simp only [List.length_cons] at hle ⊢
      have e1 : (j + (els'.length + 1)) * sz = j * sz + sz + els'.length * sz := by rw [Nat.add_mul, Nat.add_mul]; omega
      have key := foldl_splice (j * sz) v.cells.toList 0 ys (by simp [hsz]; omega)
      simp only [Nat.add_zero, Array.length_toList, hsz] at key
      obtain ⟨us, cs, g1, g2, g3, g4, g5, g6⟩ := elsL_sound is r (j + 1) vs' els' (v.cells.zipIdx.foldl (fun cs (c, i) => cs.setIfInBounds (j * sz + i) c) ys) h5 hvs (by
        have : (v.cells.zipIdx.foldl (fun cs (c, i) => cs.setIfInBounds (j * sz + i) c) ys).toList.length = ys.size := by
          rw [← Array.foldl_toList, Array.toList_zipIdx]
          have := congrArg List.length key
          simp at this
          simp only [Array.length_toList]
          rw [this, hsz]; omega
        rw [Array.length_toList] at this
        rw [this]
        have : (j + 1 + els'.length) * sz = j * sz + sz + els'.length * sz := by rw [Nat.add_mul, Nat.add_mul]; omega
        omega)
      rw [← Array.foldl_toList, Array.toList_zipIdx] at g2
      refine ⟨us, v.cells.toList :: cs, ?_, ?_, by simp [g3], ?_, ?_, ?_⟩
      · simp only [List.zip_cons_cons, Instr.fill]
        rw [if_neg (by simp [hsz]; omega)]
        exact g1
      · rw [g2, key]
        have hl : (ys.toList.take (j * sz)).length = j * sz := by rw [List.length_take]; simp; omega
        have l1 : (ys.toList.take (j * sz) ++ v.cells.toList).length = (j + 1) * sz := by rw [List.length_append, hl, Nat.add_mul]; simp [hsz]
        have t1 : ∀ C : List Value, List.take ((j + 1) * sz) (ys.toList.take (j * sz) ++ v.cells.toList ++ C) = ys.toList.take (j * sz) ++ v.cells.toList := fun C => by rw [← l1, List.take_left']; rfl
        have t2 : List.drop ((j + 1 + els'.length) * sz) (ys.toList.take (j * sz) ++ v.cells.toList ++ List.drop (j * sz + sz) ys.toList) = List.drop ((j + (els'.length + 1)) * sz) ys.toList := by
          rw [show (j + 1 + els'.length) * sz = (j + 1) * sz + els'.length * sz by rw [Nat.add_mul], ← List.drop_drop]
          rw [show List.drop ((j + 1) * sz) (ys.toList.take (j * sz) ++ v.cells.toList ++ List.drop (j * sz + sz) ys.toList) = List.drop (j * sz + sz) ys.toList by rw [← l1, List.drop_left']; rfl]
          rw [List.drop_drop]; congr 1; omega
        rw [t1, t2]
        simp
      · intro l hl
        rcases List.mem_cons.1 hl with rfl | hl
        · simpa using hsz
        · exact g4 l hl
      · intro l hl
        rcases List.mem_cons.1 hl with rfl | hl
        · exact h2
        · exact g5 l hl
      · intro q e d he hd
        cases q with
        | zero =>
          simp at he hd; subst he hd
          exact ⟨hcells, fun u hu => by
            obtain ⟨i, hi⟩ := List.mem_iff_getElem?.1 hu
            have hi' : i < x.cells.length := by rw [← hcells.1]; exact (List.getElem?_eq_some_iff.1 hi).1
            exact one_of_cell1 (hcells.2 i x.cells[i] u (by simp [hi']) hi) (all_get h4 (show x.cells[i]? = some x.cells[i] by simp [hi']))⟩
        | succ q => exact g6 q e d (by simpa using he) (by simpa using hd)
    · cases h
  | [], _ :: _, _, _, _, _, h, _, _ => by simp [elsL] at h
  | _ :: _, [], _, _, _, _, h, _, _ => by simp [elsL] at h
end
end Go.AM
