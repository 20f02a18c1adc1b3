/- Statements: plain laws; contracts of what the walks of old have shown. -/
import Derived.Test.YtoecmmpjndcolaaDoorXg
import Derived.Test.YtoecmmpjndcolaaDoorEa
import Derived.Test.YtoecmmpjndcolaaDoorUb
set_option linter.unusedSimpArgs false
set_option linter.unusedVariables false
namespace Go.AM
open Go Go.RowKit
open Go.Proofs.YtoecmmpjndcolaaDoor (OP nameM litM exprM marksS wordsS StrsAt str)
attribute [local irreducible] AWP retA
def eO (o : OP) : List AV := [.r (.int .i64 o.k), .r (.int .i64 o.vk), .r (.int .i64 o.vn), .r (.string o.vs), .r (.string o.nm)]
/-- A statement. -/
structure ST where
  k : Int
  tab : ByteArray
  cols : List CO
  row : List V
  names : List ByteArray
  count : Bool
  wh : List OP
  ord : ByteArray
  down : Bool
  lim : Int
  set : ByteArray
  to : List OP
def eST (s : ST) : List AV := [.r (.int .i64 s.k), .r (.string s.tab), .ro true 2 (s.cols.map eC), .ro true 3 (s.row.map eV), .ro true 1 (s.names.map eStr), .r (.bool s.count), .ro true 5 (s.wh.map eO), .r (.string s.ord), .r (.bool s.down), .r (.int .i64 s.lim), .r (.string s.set), .ro true 5 (s.to.map eO)]
def colsFrom : List CO → List CO → Int
  | _, [] => 0
  | p, c :: r => if nameM c.nm ≠ 0 then nameM c.nm else if c.k < 1 ∨ 3 < c.k then 2 else if p.any (fun x => x.nm.toList == c.nm.toList) then 9 else colsFrom (p ++ [c]) r
def colsM (l : List CO) : Int := if l.length < 1 ∨ 6 < l.length then 1 else colsFrom [] l
def rowFrom : List V → Int
  | [] => 0
  | v :: r => if litM v.k v.n v.s ≠ 0 then litM v.k v.n v.s else rowFrom r
def rowM (l : List V) : Int := if l.length < 1 ∨ 6 < l.length then 1 else rowFrom l
def namesM : List ByteArray → Int
  | [] => 0
  | s :: r => if nameM s ≠ 0 then nameM s else namesM r
def whereM (l : List OP) : Int := if l.length = 0 then 0 else exprM l
/-- The package's tables. -/
def typesV : List ByteArray := [str [], str [66, 79, 79, 76], str [73, 78, 84], str [84, 69, 88, 84]]
structure Tabs (G : List (Nat × List Value)) : Prop where
  marks : (1, marksS.map .string) ∈ G
  words : (2, wordsS.map .string) ∈ G
  types : lk G 0 = some (typesV.map .string)
theorem strs_of {G : List (Nat × List Value)} {w : World} {g : Nat} {ss : List ByteArray} (h : Globs G w) (hm : (g, ss.map .string) ∈ G) : StrsAt w g ss ∧ g < w.heap.size :=
  ⟨fun j hj => (h _ _ hm).2 j _ (by simp [hj]), (h _ _ hm).1⟩
/-- What may be the size of a text. -/
abbrev okS (s : ByteArray) : Prop := s.size ≤ maxLen
theorem name_con {G : List (Nat × List Value)} (T : Tabs G) (s : ByteArray) (hs : okS s) : Con Go.Proofs.Tryd.prog G 58 [.r (.string s)] [] 0 (Is (.r (.int .i64 (nameM s))) [] 0) No :=
  con_of_calls (by kernel_rfl) (fun w z vs hz hr hG => by
    obtain ⟨v, r, rfl, h1, h2⟩ := hr.head
    obtain rfl := h1.r_inv
    obtain rfl := h2.of_nil
    obtain ⟨m1, m2⟩ := strs_of hG T.marks
    obtain ⟨w1, w2⟩ := strs_of hG T.words
    exact Go.Proofs.YtoecmmpjndcolaaDoor.name_any s w hs m1 m2 w1 w2)
theorem nameFault_con (G : List (Nat × List Value)) (s : ByteArray) (hs : okS s) : Con Go.Proofs.Tryd.prog G 37 [.r (.string s)] [] 0 (Is (.r (.int .i64 (nameM s))) [] 0) No :=
  con_of_calls (by kernel_rfl) (fun w z vs hz hr hG => by
    obtain ⟨v, r, rfl, h1, h2⟩ := hr.head
    obtain rfl := h1.r_inv
    obtain rfl := h2.of_nil
    exact Go.Proofs.YtoecmmpjndcolaaDoor.nameFault_any s w hs)
theorem agg_r {w : World} {z : Zone} {th : List NLoc} {us : List Value} {v : Value} (h : Rep w z th (.agg (us.map .r)) v) : v = .agg us.toArray := by
  obtain ⟨ys, rfl, hc⟩ := h.agg_inv
  have : ys = us := by
    apply List.ext_getElem?
    intro i
    cases hi : us[i]? with
    | none => rw [List.getElem?_eq_none_iff] at hi ⊢; rw [hc.1]; simpa using hi
    | some u =>
      obtain ⟨y, h1, h2⟩ := hc.get (show (us.map AV.r)[i]? = some (.r u) by rw [List.getElem?_map, hi]; rfl)
      rw [h1, h2.r_inv]
  rw [this]
theorem lit_con (G : List (Nat × List Value)) (v : V) (hs : okS v.s) : Con Go.Proofs.Tryd.prog G 105 [.agg (eV v)] [] 0 (Is (.r (.int .i64 (litM v.k v.n v.s))) [] 0) No :=
  con_of_calls (by kernel_rfl) (fun w z vs hz hr hG => by
    obtain ⟨u, r, rfl, h1, h2⟩ := hr.head
    obtain rfl := agg_r (us := [.int .i64 v.k, .int .i64 v.n, .string v.s]) h1
    obtain rfl := h2.of_nil
    exact Go.Proofs.YtoecmmpjndcolaaDoor.lit_any v.k v.n v.s w hs)
theorem litFault_con (G : List (Nat × List Value)) (v : V) (hs : okS v.s) : Con Go.Proofs.Tryd.prog G 73 [.agg (eV v)] [] 0 (Is (.r (.int .i64 (litM v.k v.n v.s))) [] 0) No :=
  con_of_calls (by kernel_rfl) (fun w z vs hz hr hG => by
    obtain ⟨u, r, rfl, h1, h2⟩ := hr.head
    obtain rfl := agg_r (us := [.int .i64 v.k, .int .i64 v.n, .string v.s]) h1
    obtain rfl := h2.of_nil
    exact Go.Proofs.YtoecmmpjndcolaaDoor.litFault_any v.k v.n v.s w hs)
end Go.AM
