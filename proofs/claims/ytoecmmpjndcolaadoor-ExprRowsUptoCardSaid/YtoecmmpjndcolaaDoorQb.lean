/- The abstract machine, 2: types as a table, and what the operations that only reckon and read yield. -/
import Derived.Test.YtoecmmpjndcolaaDoorQa
import Derived.Laws.StructEq
set_option linter.unusedSimpArgs false
set_option linter.unusedVariables false
namespace Go.AM
open Go
inductive TK where
  | bool | int (k : IntKind) | str | ptr (e : Nat) | slice (e : Nat) | arr (n e : Nat) | map (k e : Nat) | struct (fs : List (Nat × Nat)) | func | ifc | other
structure TY where
  k : TK
  size : Nat
  bytes : Nat
  zero : Option (List Value)
def TK.agg : TK → Bool
  | .struct _ | .arr _ _ => true
  | _ => false
def sizeAt (P : Program) (T : TypeId) : Nat := match P.info? T with | some i => i.size | none => 0
def tkOf (P : Program) : TypeDesc → TK
  | .bool => .bool
  | .int k => .int k
  | .string => .str
  | .pointer e => .ptr e
  | .slice e => .slice e
  | .array n e => .arr n e
  | .map k e => .map k e
  | .struct fs => .struct (fs.toList.map fun f => (f.offset, sizeAt P f.type))
  | .func _ _ _ => .func
  | .interface _ => .ifc
  | _ => .other
def okFs (P : Program) : TypeDesc → Bool
  | .struct fs => fs.toList.all fun f => (P.info? f.type).isSome
  | _ => true
def tyOf (P : Program) (T : TypeId) : Option TY :=
  match P.info? T, P.underlying T with
  | some i, some d => if okFs P d = true then some ⟨tkOf P d, i.size, i.bytes, i.zero.map fun v => v.cells.toList⟩ else none
  | _, _ => none
section
variable {P : Program} {T : TypeId} {y : TY} {w : World}
theorem tyOf_spec' (h : tyOf P T = some y) : ∃ i d, P.info? T = some i ∧ P.underlying T = some d ∧ okFs P d = true ∧ y = ⟨tkOf P d, i.size, i.bytes, i.zero.map fun v => v.cells.toList⟩ := by
  unfold tyOf at h
  split at h
  · rename_i i d h1 h2
    split at h
    · rename_i h3; cases h; exact ⟨i, d, h1, h2, h3, rfl⟩
    · cases h
  · cases h
theorem tyOf_spec (h : tyOf P T = some y) : ∃ i d, P.info? T = some i ∧ P.underlying T = some d ∧ y = ⟨tkOf P d, i.size, i.bytes, i.zero.map fun v => v.cells.toList⟩ := by
  obtain ⟨i, d, h1, h2, _, h3⟩ := tyOf_spec' h; exact ⟨i, d, h1, h2, h3⟩
theorem run_typeInfo {i : TypeInfo} (h : P.info? T = some i) : (typeInfo T).run P w = .ok i w := by
  simp [typeInfo, h]
theorem run_underlying {d : TypeDesc} (h : P.underlying T = some d) : (underlying T).run P w = .ok d w := by
  simp [underlying, h]
theorem run_sizeOf (h : tyOf P T = some y) : (sizeOf T).run P w = .ok y.size w := by
  obtain ⟨i, d, h1, h2, rfl⟩ := tyOf_spec h
  simp [sizeOf, run_typeInfo h1]
theorem run_isAgg (h : tyOf P T = some y) : (isAgg T).run P w = .ok y.k.agg w := by
  obtain ⟨i, d, h1, h2, rfl⟩ := tyOf_spec h
  simp only [isAgg, Sem.run_bind, run_underlying h2, Result.andThen_ok]
  cases d <;> simp [tkOf, TK.agg]
theorem run_zeroValue (h : tyOf P T = some y) {zs : List Value} (hz : y.zero = some zs) : ∃ v, (zeroValue T).run P w = .ok v w ∧ v.cells.toList = zs := by
  obtain ⟨i, d, h1, h2, rfl⟩ := tyOf_spec h
  simp only [Option.map_eq_some_iff] at hz
  obtain ⟨v, hv, rfl⟩ := hz
  exact ⟨v, by simp [zeroValue, run_typeInfo h1, hv], rfl⟩
theorem und_bool (h : tyOf P T = some y) (hk : y.k = .bool) : P.underlying T = some .bool := by
  obtain ⟨i, d, h1, h2, rfl⟩ := tyOf_spec h; cases d <;> simp [tkOf] at hk; exact h2
theorem und_int {k : IntKind} (h : tyOf P T = some y) (hk : y.k = .int k) : P.underlying T = some (.int k) := by
  obtain ⟨i, d, h1, h2, rfl⟩ := tyOf_spec h; cases d <;> simp [tkOf] at hk; subst hk; exact h2
theorem und_str (h : tyOf P T = some y) (hk : y.k = .str) : P.underlying T = some .string := by
  obtain ⟨i, d, h1, h2, rfl⟩ := tyOf_spec h; cases d <;> simp [tkOf] at hk; exact h2
theorem und_ptr {e : Nat} (h : tyOf P T = some y) (hk : y.k = .ptr e) : P.underlying T = some (.pointer e) := by
  obtain ⟨i, d, h1, h2, rfl⟩ := tyOf_spec h; cases d <;> simp [tkOf] at hk; subst hk; exact h2
theorem und_slice {e : Nat} (h : tyOf P T = some y) (hk : y.k = .slice e) : P.underlying T = some (.slice e) := by
  obtain ⟨i, d, h1, h2, rfl⟩ := tyOf_spec h; cases d <;> simp [tkOf] at hk; subst hk; exact h2
theorem und_arr {n e : Nat} (h : tyOf P T = some y) (hk : y.k = .arr n e) : P.underlying T = some (.array n e) := by
  obtain ⟨i, d, h1, h2, rfl⟩ := tyOf_spec h; cases d <;> simp [tkOf] at hk; obtain ⟨rfl, rfl⟩ := hk; exact h2
theorem und_map {n e : Nat} (h : tyOf P T = some y) (hk : y.k = .map n e) : P.underlying T = some (.map n e) := by
  obtain ⟨i, d, h1, h2, rfl⟩ := tyOf_spec h; cases d <;> simp [tkOf] at hk; obtain ⟨rfl, rfl⟩ := hk; exact h2
theorem und_struct {fs : List (Nat × Nat)} (h : tyOf P T = some y) (hk : y.k = .struct fs) : ∃ gs : Array Field, P.underlying T = some (.struct gs) ∧ (fs = gs.toList.map fun f => (f.offset, sizeAt P f.type)) ∧ ∀ f ∈ gs.toList, (P.info? f.type).isSome = true := by
  obtain ⟨i, d, h1, h2, h3, rfl⟩ := tyOf_spec' h
  cases d <;> simp only [tkOf] at hk <;> try cases hk
  rename_i gs
  exact ⟨gs, h2, rfl, List.all_eq_true.1 h3⟩
theorem und_not_ifc (h : tyOf P T = some y) (hk : y.k ≠ .ifc) : ∃ d, P.underlying T = some d ∧ ∀ ms, d ≠ .interface ms := by
  obtain ⟨i, d, h1, h2, rfl⟩ := tyOf_spec h
  exact ⟨d, h2, fun ms e => by subst e; exact hk rfl⟩
end
/-- An operand. -/
def ev (st : AS) (G : List (Nat × List Value)) : Operand → Option AV
  | .tmp t => lk st.m t
  | .const v => some (.r v)
  | .global g => (lk G g).map fun cs => .re true (cs.map .r) 0
  | .func f => some (.fn f [])
def evs (st : AS) (G : List (Nat × List Value)) : List Operand → Option (List AV)
  | [] => some []
  | x :: r => match ev st G x, evs st G r with
    | some a, some l => some (a :: l)
    | _, _ => none
/-- The run of cells behind an address. -/
def cellsAt (st : AS) : AV → Option (List AV × Nat)
  | .re _ c off => some (c, off)
  | .p n i off => match lk st.o n with
    | some (.box _ c) => if i = 0 then some (c, off) else none
    | some (.lst _ _ els) => (els[i]?).map fun e => (e, off)
    | none => none
  | _ => none
def pickC (y : TY) (c : List AV) (off : Nat) : Option AV :=
  if y.k.agg = true then (if off + y.size ≤ c.length then some (.agg ((c.drop off).take y.size)) else none)
  else c[off]?
def ptrAdd (d : Nat) : AV → Option AV
  | .re t c off => some (.re t c (off + d))
  | .p n i off => some (.p n i (off + d))
  | _ => none
def boolOf : AV → Option Bool
  | .r (.bool x) => some x
  | _ => none
def pickAV (c : Bool) (a b : AV) : AV := match boolOf a, boolOf b with
  | some x, some y => .r (.bool (bif c then x else y))
  | _, _ => bif c then a else b
def lenS : AV → Option AV
  | .ro _ _ els => some (.r (.int .i64 els.length))
  | .s _ _ len => some (.r (.int .i64 len))
  | .r (.slice none 0 0) => some (.r (.int .i64 0))
  | _ => none
def lenA (x : AV) : TK → Option AV
  | .slice _ => lenS x
  | .str => match x with
    | .r (.string s) => some (.r (.int .i64 s.size))
    | _ => none
  | .arr n _ => some (.r (.int .i64 n))
  | _ => none
def eByte (b : UInt8) : List AV := [.r (.int .u8 b.toNat)]
def unb : List (List AV) → Option (List UInt8)
  | [] => some []
  | [.r (.int .u8 n)] :: r => match unb r with
    | some l => if n = (UInt8.ofNat n.toNat).toNat then some (UInt8.ofNat n.toNat :: l) else none
    | none => none
  | _ :: _ => none
theorem unb_map (bs : List UInt8) : unb (bs.map eByte) = some bs := by
  induction bs with
  | nil => rfl
  | cons b r ih => simp [unb, eByte] at ih ⊢; simp [ih]
/-- The elements of a slice value. -/
def elemsOf (st : AS) (k : Nat) : AV → Option (List (List AV))
  | .ro _ k' els => if k' = k then some els else none
  | .s n lo len => match lk st.o n with
    | some (.lst _ k' els) => if k' = k ∧ lo + len ≤ els.length then some ((els.drop lo).take len) else none
    | _ => none
  | .r (.slice none 0 0) => some []
  | _ => none
def bAnd (k : IntKind) (a b : Int) : Int := k.wrap (BitVec.ofInt k.bits a &&& BitVec.ofInt k.bits b).toNat
def bOr (k : IntKind) (a b : Int) : Int := k.wrap (BitVec.ofInt k.bits a ||| BitVec.ofInt k.bits b).toNat
def bXor (k : IntKind) (a b : Int) : Int := k.wrap (BitVec.ofInt k.bits a ^^^ BitVec.ofInt k.bits b).toNat
def shlI (k : IntKind) (a b : Int) : Int := k.wrap (a * 2 ^ (min b.toNat k.bits))
def shrI (k : IntKind) (a b : Int) : Int := a.fdiv (2 ^ (min b.toNat k.bits))
def intA : BinOp → IntKind → Int → Int → Option AV
  | .add, k, a, b => some (.r (.int k (k.wrap (a + b))))
  | .sub, k, a, b => some (.r (.int k (k.wrap (a - b))))
  | .mul, k, a, b => some (.r (.int k (k.wrap (a * b))))
  | .quo, k, a, b => if b = 0 then none else some (.r (.int k (k.wrap (a.tdiv b))))
  | .rem, k, a, b => if b = 0 then none else some (.r (.int k (a.tmod b)))
  | .eql, _, a, b => some (.r (.bool (a == b)))
  | .neq, _, a, b => some (.r (.bool (a != b)))
  | .lss, _, a, b => some (.r (.bool (decide (a < b))))
  | .leq, _, a, b => some (.r (.bool (decide (a ≤ b))))
  | .gtr, _, a, b => some (.r (.bool (decide (a > b))))
  | .geq, _, a, b => some (.r (.bool (decide (a ≥ b))))
  | .and, k, a, b => some (.r (.int k (bAnd k a b)))
  | .or, k, a, b => some (.r (.int k (bOr k a b)))
  | .xor, k, a, b => some (.r (.int k (bXor k a b)))
  | _, _, _, _ => none
/-- A shift: the two kinds may differ. -/
def shA : BinOp → IntKind → Int → Int → Option AV
  | .shl, k, a, b => if b < 0 then none else some (.r (.int k (shlI k a b)))
  | .shr, k, a, b => if b < 0 then none else some (.r (.int k (shrI k a b)))
  | _, _, _, _ => none
def isSh : BinOp → Bool
  | .shl | .shr => true
  | _ => false
def strA : BinOp → ByteArray → ByteArray → Option AV
  | .add, a, b => if a.size + b.size ≤ 9223372036854775807 then some (.r (.string (a ++ b))) else none
  | .eql, a, b => some (.r (.bool (a.toList == b.toList)))
  | .neq, a, b => some (.r (.bool (!(a.toList == b.toList))))
  | .lss, a, b => some (.r (.bool (Op.bytesLess a.toList b.toList)))
  | .leq, a, b => some (.r (.bool (Op.bytesLess a.toList b.toList || a.toList == b.toList)))
  | .gtr, a, b => some (.r (.bool (!(Op.bytesLess a.toList b.toList || a.toList == b.toList))))
  | .geq, a, b => some (.r (.bool (!Op.bytesLess a.toList b.toList)))
  | _, _, _ => none
/-- Is a slice nil? -/
def nilA : AV → Option Bool
  | .r (.slice none 0 0) => some true
  | .ro _ _ (_ :: _) => some false
  | .s _ _ len => if 0 < len then some false else none
  | _ => none
def binA (op : BinOp) (y : TY) : AV → AV → Option AV
  | .r (.int k a), .r (.int k' b) => if isSh op = true then shA op k a b else if k = k' then intA op k a b else none
  | .r (.string a), .r (.string b) => strA op a b
  | .r (.bool a), .r (.bool b) => match y.k, op with
    | .bool, .eql => some (.r (.bool (a == b)))
    | .bool, .neq => some (.r (.bool (!(a == b))))
    | _, _ => none
  | x, .r (.slice none 0 0) => match y.k, op, nilA x with
    | .slice _, .eql, some b => some (.r (.bool b))
    | .slice _, .neq, some b => some (.r (.bool (!b)))
    | _, _, _ => none
  | _, _ => none
/-- What two values of a type are compared by. -/
inductive ET where
  | prim (k : TK)
  | str (fs : List (Nat × Nat × ET))
mutual
def etOf (P : Program) : Nat → TypeId → Option ET
  | 0, _ => none
  | d + 1, T => match P.underlying T with
    | some (.int k) => some (.prim (.int k))
    | some .string => some (.prim .str)
    | some .bool => some (.prim .bool)
    | some (.struct fs) => if P.stoodInHeld T = true then none else (etFs P d fs.toList).map .str
    | _ => none
def etFs (P : Program) : Nat → List Field → Option (List (Nat × Nat × ET))
  | _, [] => some []
  | 0, _ :: _ => none
  | d + 1, f :: fs => if f.name = "_" then none else match etOf P d f.type, etFs P d fs, P.info? f.type with
    | some t, some l, some i => some ((f.offset, i.size, t) :: l)
    | _, _, _ => none
end
def etTop (P : Program) (T : TypeId) : Option ET := if P.eqGuardType P.depth T = true then none else etOf P 200 T
def eqC : TK → AV → AV → Option Bool
  | .int _, .r (.int k a), .r (.int k' b) => if k = k' then some (a == b) else none
  | .str, .r (.string a), .r (.string b) => some (a.toList == b.toList)
  | .bool, .r (.bool a), .r (.bool b) => some (a == b)
  | _, _, _ => none
mutual
def eqT : ET → List AV → List AV → Option Bool
  | .prim k, [x], [y] => eqC k x y
  | .prim _, _, _ => none
  | .str fs, a, b => eqFs fs a b
def eqFs : List (Nat × Nat × ET) → List AV → List AV → Option Bool
  | [], _, _ => some true
  | (o, s, t) :: r, a, b => match eqT t ((a.drop o).take s) ((b.drop o).take s), eqFs r a b with
    | some p, some q => some (p && q)
    | _, _ => none
end
def eqA (P : Program) (op : BinOp) (T : TypeId) (a b : List AV) : Option AV :=
  match op, etTop P T with
  | .eql, some (.str fs) => (eqFs fs a b).map fun r => .r (.bool r)
  | .neq, some (.str fs) => (eqFs fs a b).map fun r => .r (.bool (!r))
  | _, _ => none
def unA : UnOp → AV → Option AV
  | .not, .r (.bool b) => some (.r (.bool (!b)))
  | .neg, .r (.int k n) => some (.r (.int k (k.wrap (0 - n))))
  | _, _ => none
def cvA (P : Program) (st : AS) (s d : TY) : AV → Option AV
  | .r (.int _ n) => match d.k with
    | .int k => some (.r (.int k (k.wrap n)))
    | _ => none
  | .r (.string b) => match s.k, d.k with
    | .str, .str => some (.r (.string b))
    | _, _ => none
  | x => match s.k, d.k with
    | .slice e, .str => match tyOf P e, elemsOf st 1 x with
      | some ⟨.int .u8, _, _, _⟩, some els => match unb els with
        | some bs => some (.r (.string ⟨bs.toArray⟩))
        | none => none
      | _, _ => none
    | _, _ => none
/-- Bounds of a slice expression, within the length. -/
def hiA (len : Nat) : Option AV → Option Nat
  | none => some len
  | some (.r (.int _ h)) => if 0 ≤ h ∧ h ≤ len then some h.toNat else none
  | _ => none
def loA (h : Nat) : Option AV → Option Nat
  | none => some 0
  | some (.r (.int _ l)) => if 0 ≤ l ∧ l ≤ h then some l.toNat else none
  | _ => none
def bnd (len : Nat) (lo hi : Option AV) : Option (Nat × Nat) :=
  match hiA len hi with
  | none => none
  | some h => (loA h lo).map fun l => (l, h)
def slA (P : Program) (st : AS) (y : TY) (lo hi : Option AV) : AV → Option AV
  | .r (.string s) => match y.k with
    | .str => (bnd s.size lo hi).map fun (l, h) => .r (.string (s.extract l h))
    | _ => none
  | .ro t k els => match y.k with
    | .slice e => match tyOf P e with
      | some ye => if k = ye.size then (bnd els.length lo hi).map fun (l, h) => .ro t k ((els.take h).drop l) else none
      | none => none
    | _ => none
  | .s n o len => match y.k with
    | .slice e => match tyOf P e, lk st.o n with
      | some ye, some (.lst _ k _) => if k = ye.size then (bnd len lo hi).map fun (l, h) => .s n (o + l) (h - l) else none
      | _, _ => none
    | _ => none
  | .r (.slice none 0 0) => match y.k with
    | .slice e => match tyOf P e with
      | some _ => (bnd 0 lo hi).map fun _ => .r (.slice none 0 0)
      | none => none
    | _ => none
  | _ => none
/-- With a third bound, within the length. -/
def sl3A (P : Program) (st : AS) (y : TY) (lo : Option AV) (hi m : AV) (x : AV) : Option AV :=
  match lenS x, m, hi with
  | some (.r (.int _ n)), .r (.int _ mv), .r (.int _ hv) => if 0 ≤ mv ∧ mv ≤ n ∧ hv ≤ mv then slA P st y lo (some hi) x else none
  | _, _, _ => none
def capA (x : AV) : TK → Option AV
  | .slice _ => match x with
    | .r (.slice none 0 0) => some (.r (.int .i64 0))
    | _ => none
  | _ => none
def ixA (st : AS) (P : Program) (y : TY) (i : Int) (x : AV) : Option AV :=
  match y.k with
  | .slice e => match tyOf P e, x with
    | some ye, .ro t k els => if k = ye.size ∧ 0 ≤ i then (els[i.toNat]?).map fun c => .re t c 0 else none
    | some ye, .s n lo len => match lk st.o n with
      | some (.lst _ k _) => if k = ye.size ∧ 0 ≤ i ∧ i < len then some (.p n (lo + i.toNat) 0) else none
      | _ => none
    | _, _ => none
  | .arr m e => match tyOf P e with
    | some ye => if 0 ≤ i ∧ i < m then ptrAdd (i.toNat * ye.size) x else none
    | none => none
  | _ => none
def ixV (P : Program) (y : TY) (i : Int) (x : AV) : Option AV :=
  match y.k, x with
  | .str, .r (.string s) => if 0 ≤ i then (s[i.toNat]?).map fun b => .r (.int .u8 b.toNat) else none
  | .arr m e, .agg c => match tyOf P e with
    | some ye => if 0 ≤ i ∧ i < m then pickC ye c (i.toNat * ye.size) else none
    | none => none
  | _, _ => none
def AV.cells : AV → List AV
  | .agg c => c
  | x => [x]
def splice (cs : List AV) (off : Nat) (new : List AV) : List AV := cs.take off ++ new ++ cs.drop (off + new.length)
/-- Whether a value is one cell, or a struct whose cells are laid side by side. -/
def AV.okPart : AV → Bool
  | .r (.agg _) => false
  | _ => true
def fillA (place : Nat → Option (Nat × Nat)) (cs : List AV) : List (Nat × AV) → Option (List AV)
  | [] => some cs
  | (i, v) :: r => match place i with
    | none => none
    | some (off, sz) => if v.cells.length = sz ∧ off + sz ≤ cs.length ∧ v.okPart = true then fillA place (splice cs off v.cells) r else none
def evParts (st : AS) (G : List (Nat × List Value)) : List (Nat × Operand) → Option (List (Nat × AV))
  | [] => some []
  | (i, x) :: r => match ev st G x, evParts st G r with
    | some a, some l => some ((i, a) :: l)
    | _, _ => none
def evOpt (st : AS) (G : List (Nat × List Value)) : Option Operand → Option (Option AV)
  | none => some none
  | some x => (ev st G x).map some
/-- What an operation yields that only reckons and reads. -/
def qv (P : Program) (G : List (Nat × List Value)) (st : AS) : Op → Option AV
  | .move x => ev st G x
  | .assign x => ev st G x
  | .pick c a b => match ev st G c, ev st G a, ev st G b with
    | some (.r (.bool c)), some a, some b => some (pickAV c a b)
    | _, _, _ => none
  | .load T x => match tyOf P T, ev st G x with
    | some y, some x => match cellsAt st x with
      | some (c, off) => pickC y c off
      | none => none
    | _, _ => none
  | .nilCheck x => match ev st G x with
    | some (.re t c off) => some (.re t c off)
    | some (.p n i off) => some (.p n i off)
    | some (.fn f c) => some (.fn f c)
    | _ => none
  | .binOp op T x y _ => match tyOf P T, ev st G x, ev st G y with
    | some _, some (.agg a), some (.agg b) => eqA P op T a b
    | some ty, some a, some b => binA op ty a b
    | _, _, _ => none
  | .unOp op _ x => match ev st G x with
    | some a => unA op a
    | none => none
  | .convert s d x => match tyOf P s, tyOf P d, ev st G x with
    | some s, some d, some x => cvA P st s d x
    | _, _, _ => none
  | .makeInterface T x => match tyOf P T, ev st G x with
    | some ⟨.ifc, _, _, _⟩, _ => none
    | some _, some x => some (.ifc T x)
    | _, _ => none
  | .makeFunc (.func f) first caps => match first.toList, evs st G caps.toList with
    | [], some c => some (.fn f c)
    | _, _ => none
  | .slice T x lo hi none => match tyOf P T, ev st G x, evOpt st G lo, evOpt st G hi with
    | some y, some x, some lo, some hi => slA P st y lo hi x
    | _, _, _, _ => none
  | .slice T x lo (some hi) (some m) => match tyOf P T, ev st G x, evOpt st G lo, ev st G hi, ev st G m with
    | some y, some x, some lo, some hi, some m => sl3A P st y lo hi m x
    | _, _, _, _, _ => none
  | .fieldAddr T x f => match tyOf P T, ev st G x with
    | some ⟨.struct fs, _, _, _⟩, some x => match fs[f]? with
      | some (off, sz) => if sz = 0 then none else ptrAdd off x
      | none => none
    | _, _ => none
  | .indexAddr T x i => match tyOf P T, ev st G x, ev st G i with
    | some y, some x, some (.r (.int _ i)) => ixA st P y i x
    | _, _, _ => none
  | .index T x i => match tyOf P T, ev st G x, ev st G i with
    | some y, some x, some (.r (.int _ i)) => ixV P y i x
    | _, _, _ => none
  | .extract t i => match ev st G t with
    | some (.tup c) => c[i]?
    | _ => none
  | .build T parts => match tyOf P T, evParts st G parts.toList with
    | some ⟨.struct fs, _, _, some z⟩, some l => (fillA (fs[·]?) (z.map .r) l).map .agg
    | some ⟨.arr _ e, _, _, some z⟩, some l => match tyOf P e with
      | some ye => (fillA (fun i => some (i * ye.size, ye.size)) (z.map .r) l).map .agg
      | none => none
    | _, _ => none
  | .call { callee := .builtin .len, args, argTypes } => match evs st G args.toList, argTypes[0]? with
    | some [x], some T => match tyOf P T with
      | some y => lenA x y.k
      | none => none
    | _, _ => none
  | .call { callee := .builtin .cap, args, argTypes } => match evs st G args.toList, argTypes[0]? with
    | some [x], some T => match tyOf P T with
      | some y => capA x y.k
      | none => none
    | _, _ => none
  | _ => none
end Go.AM
