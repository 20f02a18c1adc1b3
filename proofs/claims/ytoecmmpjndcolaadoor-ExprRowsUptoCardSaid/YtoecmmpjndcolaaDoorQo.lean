/- The abstract machine, 15: small helps. -/
import Derived.Test.YtoecmmpjndcolaaDoorQn
set_option linter.unusedSimpArgs false
set_option linter.unusedVariables false
namespace Go.AM
open Go
/-- What is given back, with its own things. -/
def Is (res : AV) (o : List (Nat × Nd)) (n : Nat) : AV → List (Nat × Nd) → Nat → Prop := fun y o' n' => y = res ∧ o' = o ∧ n' = n
def No : AV → List (Nat × Nd) → Nat → Prop := fun _ _ _ => False
section
variable {P : Program} {E : Env} {N : Nat} {st : AS} {th : List NLoc} {z : Zone} {a : Act} {w : World}
/-- A nil slice as an own list without elements. -/
theorem emb_nil (d : Nat) (T : TypeId) (k : Nat) (h : lk st.m d = some (.r (.slice none 0 0))) : Emb E N st { m := (d, .s st.n 0 0) :: st.m, o := (st.n, .lst T k []) :: st.o, n := st.n + 1 } := by
  intro th z a w hs
  have hk := hs.know ⟨0, 0, 0, 0, true⟩ (.lst T k []) (fun hp => by cases hp) (fun _ _ _ _ _ _ hp => by cases hp) (.inl ⟨rfl, rfl⟩)
  refine ⟨_, z, hk.mem, hk.size, hk.dfs, fun i x hi => ?_⟩
  simp only [lk] at hi
  split at hi
  · rename_i e; subst e; cases hi
    obtain ⟨y, hy, hr⟩ := hs.slots d _ h
    obtain rfl := hr.r_inv
    exact ⟨_, hy, .sn _ _ 0 _ (hs.get_new _) rfl⟩
  · exact hk.slots i x hi
/-- A slot's own slices are read alone from now on. -/
theorem emb_frz (d : Nat) {x x' : AV} {st' : AS} (h : lk st.m d = some x) (hf : frz st x = some (x', st')) : Emb E N st { st' with m := (d, x') :: st'.m } := by
  intro th z a w hs
  obtain ⟨y, hy, hr⟩ := hs.slots d _ h
  obtain ⟨z', hz, hs', hr', hm, hn⟩ := frz_sound x hs hr hf
  refine ⟨th, z', hs'.mem, hs'.size, hs'.dfs, fun i u hi => ?_⟩
  simp only [lk] at hi
  split at hi
  · rename_i e; subst e; cases hi
    exact ⟨y, hy, hr'.pure th⟩
  · exact hs'.slots i u hi
/-- A value is given back whose own slices are read alone from now on. -/
theorem embS_frz {x x' y : AV} {st' : AS} {o : List (Nat × Nd)} {n : Nat} (hf : frz st x = some (x', st')) (h : EmbS E N st' x' o n y) : EmbS E N st x o n y := by
  intro th z a w v hs hr
  obtain ⟨z', hz, hs', hr', hm, hn⟩ := frz_sound x hs hr hf
  exact h th z' a w v hs' (hr'.pure th)
theorem callG_is {f : Nat} {xs ys : List AV} {res : AV} {os : List (Nat × Nd)} {m : Nat} {k kp : AV → AS → Prop} (hc : Con P E.G f ys [] 0 (Is res os m) No) (hb : borL st xs = some ys) (hp : PT res) (hp' : ∀ p ∈ os, PTNd p.2)
    (hk : k (ren (· + st.n) res) { st with o := shO st.n os ++ st.o, n := st.n + m }) : CallG P E N f xs st k kp :=
  callG_of_con hc hb (fun y o n ⟨h1, h2, h3⟩ => by subst h1 h2 h3; exact ⟨hp, hp', hk⟩) (fun _ _ _ h => h.elim)
theorem callG_r {f : Nat} {xs ys : List AV} {v : Value} {k kp : AV → AS → Prop} (hc : Con P E.G f ys [] 0 (Is (.r v) [] 0) No) (hb : borL st xs = some ys) (hk : k (.r v) st) : CallG P E N f xs st k kp :=
  callG_is hc hb (.r v) (fun p hp => by cases hp) (by simpa [ren, shO] using hk)
theorem callG_ro {f : Nat} {xs ys : List AV} {kk : Nat} {els : List (List AV)} {k kp : AV → AS → Prop} (hc : Con P E.G f ys [] 0 (Is (.ro true kk els) [] 0) No) (hb : borL st xs = some ys) (hp : ∀ e ∈ els, ∀ x ∈ e, PT x) (hk : k (.ro true kk els) st) : CallG P E N f xs st k kp :=
  callG_is hc hb (.ro kk els hp) (fun p hp => by cases hp) (by simpa [ren, shO] using hk)
end
end Go.AM
