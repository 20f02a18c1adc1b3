/- Texts of the law NeedNeeds, part 3: lemmas; what is proved stands in the last text. -/
import Derived.Test.YtmohnlbeiaifhaaGreatDoorZz2
import Derived.Below
abbrev fQ:=@Go.Oper.upon_value
abbrev gJ:=@Nat.eq_of_beq_eq_true
abbrev fD:=@List.getElem?_inj
abbrev fJ:=@Bool.or_eq_false_iff
abbrev fG:=@List.nodup_nil
abbrev dY:=@List.nodup_cons
abbrev dF:=@Nat.add_sub_cancel
abbrev cO:=@Go.mem_ready
abbrev fX:=@Array.setIfInBounds_comm
abbrev eJ:=@List.mem_of_mem_drop
abbrev aP:=@decide_eq_true_eq
abbrev dZ:=@Array.mem_toList_iff
abbrev dC:=@Array.mem_of_getElem?
abbrev dI:=@Go.Region.noSelect_spec
abbrev dU:=@Go.Region.free_spec
abbrev cA:=@Bool.or_eq_true
abbrev aZ:=@of_decide_eq_true
abbrev dW:=@List.getElem?_eq_none_iff
abbrev aK:=@eq_true
abbrev cP:=@List.mem_range
abbrev cM:=@List.take_take
abbrev gQ:=@List.mem_erase_of_ne
set_option linter.unusedSimpArgs false
set_option linter.unusedVariables false
set_option maxRecDepth 100000
namespace Go.AM
open Go
def NC (P:Program)(f:Nat):Bool:=match P.funcs[f]? with
 |some fn=>fn.name != "runtime.NumGoroutine" &&fn.body.isSome
 |none=>false
theorem ES {P:Program}{f:Nat}(h:NC P f=true)(args:Array Value)(w:World):(callFunc f args).run P w= .ok (.enter f args) w:=by
 unfold NC at h;split at h
 ·rename_i fn hf
  simp only[aJ,bne_iff_ne,ne_eq] at h;obtain⟨h1,h2⟩:=h
  have h3:fn.body.isNone=false:=by cases hb:fn.body<;>simp_all
  have h4:(fn.name== "runtime.NumGoroutine")=false:=by simpa using h1
  simp only[callFunc,aQ,run_program,aL,hf,h4,h3]
  rfl
 ·cases h
def CallT (P:Program)(E:Env)(N:Nat)(f:Nat)(xs:List AV)(st:AS)(ts:List Nat)(k kp:AV->AS->Prop):Prop:=
 NC P f=true/\ ∀th z a w vs,Sim E N st th z a w->Reps w z th xs vs->Calls P f vs.toArray w (fun e w'=> ∃v x st' th' z',((e= .returned v/\k x st')\/(e= .panicked [{v:=v,recovered:=false}]/\kp x st'))/\st'.m=st.m/\Sim E N st' th' z' a w'/\Rep w' z' th' x v/\Later th th'/\ExtT th ts w w')
def CallV (P:Program)(E:Env)(N:Nat)(f:Nat)(xs:List AV)(st:AS)(k kp:AV->AS->Prop):Prop:=
 NC P f=true/\ ∀th z a w vs,Sim E N st th z a w->Reps w z th xs vs->Calls P f vs.toArray w (fun e w'=> ∃v x st' th' z',((e= .returned v/\k x st')\/(e= .panicked [{v:=v,recovered:=false}]/\kp x st'))/\st'.m=st.m/\Sim E N st' th' z' a w'/\Rep w' z' th' x v)
theorem CallT.v {P:Program}{E:Env}{N:Nat}{f:Nat}{xs:List AV}{st:AS}{ts:List Nat}{k kp:AV->AS->Prop}(h:CallT P E N f xs st ts k kp):CallV P E N f xs st k kp:=
 ⟨h.1,fun th z a w vs h1 h2=>(h.2 th z a w vs h1 h2).mono fun e w' ⟨v,x,st',th',z',h3,h4,h5,h6,_⟩=>⟨v,x,st',th',z',h3,h4,h5,h6⟩⟩
theorem CallV.mono {P:Program}{E:Env}{N:Nat}{f:Nat}{xs:List AV}{st:AS}{k kp k' kp':AV->AS->Prop}(h:CallV P E N f xs st k kp)(hk: ∀v s,k v s->k' v s)(hp: ∀v s,kp v s->kp' v s):CallV P E N f xs st k' kp':=
 ⟨h.1,fun th z a w vs h1 h2=>(h.2 th z a w vs h1 h2).mono fun e w' ⟨v,x,st',th',z',h3,h4⟩=>⟨v,x,st',th',z',h3.imp (fun h=>⟨h.1,hk _ _ h.2⟩) (fun h=>⟨h.1,hp _ _ h.2⟩),h4⟩⟩
def CallG (P:Program)(E:Env)(N:Nat)(f:Nat)(xs:List AV)(st:AS)(k kp:AV->AS->Prop):Prop:=CallT P E N f xs st [] k kp
theorem CallG.v {P:Program}{E:Env}{N:Nat}{f:Nat}{xs:List AV}{st:AS}{k kp:AV->AS->Prop}(h:CallG P E N f xs st k kp):CallV P E N f xs st k kp:=CallT.v h
theorem CallT.mono {P:Program}{E:Env}{N:Nat}{f:Nat}{xs:List AV}{st:AS}{ts:List Nat}{k kp k' kp':AV->AS->Prop}(h:CallT P E N f xs st ts k kp)(hk: ∀v s,k v s->k' v s)(hp: ∀v s,kp v s->kp' v s):CallT P E N f xs st ts k' kp':=
 ⟨h.1,fun th z a w vs h1 h2=>(h.2 th z a w vs h1 h2).mono fun e w' ⟨v,x,st',th',z',h3,h4⟩=>⟨v,x,st',th',z',h3.imp (fun h=>⟨h.1,hk _ _ h.2⟩) (fun h=>⟨h.1,hp _ _ h.2⟩),h4⟩⟩
def D6 (P:Program)(G:List (Nat×List Value))(st:AS)(op:Op):Option (Prop×AV×AS):=
 match op with
 | .box T x=>match AK P T,ev st G x with
   |some _,some x=>some (x.okPart=true,.p st.n 0 0,Br st (.box T x.cells))
   |_,_=>none
 | .alloc T=>match AK P T with
   |some ⟨_,_,_,some zs⟩=>some (True,.p st.n 0 0,Br st (.box T (zs.map .r)))
   |_=>none
 | .buildSlice T len parts=>match AK P T,FV st G (parts.toList.map (·.2)) with
   |some ⟨.slice e,_,_,_⟩,some c=>match AK P e,MK st c with
    |some ⟨_,sz,_,some _⟩,some (c',st')=>match JF sz 0 (parts.toList.map (·.1)) c' with
     |some els=>some ((len=els.length/\len * sz≤16777216),.s st'.n 0 len,Br st' (.lst e sz els))
     |none=>none
    |_,_=>none
   |_,_=>none
 | .store T x v=>match AK P T,ev st G x,ev st G v with
   |some y,some (.p n i off),some v=>match lk st.o n with
    |some (.box T' c)=>if i=0/\v.cells.length=y.size/\off+y.size≤c.length/\v.okPart=true/\v.cells.all AV.cell1=true then some (True,.r (.tuple #[]),C4 st n (.box T' (splice c off v.cells))) else none
    |some (.lst T' k' els)=>match NI st v with
     |some (v',st')=>match lk st'.o n,els[i]? with
      |some (.lst _ _ _),some e=>some ((v'.cells.length=y.size/\off+y.size≤e.length/\v'.okPart=true/\v'.cells.all AV.cell1=true),.r (.tuple #[]),C4 st' n (.lst T' k' (els.set i (splice e off v'.cells))))
      |_,_=>none
     |none=>none
    |_=>none
   |_,_,_=>none
 | .call {callee:= .builtin .append,args,argTypes}=>match JS P G st args argTypes with
  |some r=>some r
  |none=>match FV st G args.toList,argTypes.toList with
   |some [b,x],[T,T']=>match AK P T,AK P T' with
    |some ⟨.slice e,_,_,_⟩,some y'=>match AK P e with
     |some ⟨_,sz,bytes,some zs⟩=>match NA st sz y'.k x with
      |some new=>match b with
       | .r (.slice none 0 0)=>some ((zs.length=sz/\0<sz/\new.length * bytes≤140737488355328/\new.length≤9223372036854775807),.s st.n 0 new.length,Br st (.lst e sz new))
       | .s n lo len=>match lk st.o n with
         |some (.lst T2 k' els)=>some ((T2=e/\zs.length=sz/\k'=sz/\0<sz/\lo+len≤els.length/\(len+new.length) * bytes≤140737488355328/\len+new.length≤9223372036854775807),
          .s st.n 0 (len+new.length),Br {st with o:=rm st.o n} (.lst e sz ((els.drop lo).take len++new)))
         |_=>none
       |_=>none
      |none=>none
     |_=>none
    |_,_=>none
   |_,_=>none
 | .call {callee:= .builtin .clear,..}=>none
 | .makeSlice T l c=>match AK P T,ev st G l,ev st G c with
   |some ⟨.slice e,_,_,_⟩,some (.r (.int _ n)),some (.r (.int _ n'))=>match AK P e with
    |some ⟨_,sz,bytes,some zs⟩=>some ((n=n'/\0≤n/\n≤9223372036854775807/\n * bytes≤281474976710656/\0<sz/\zs.length=sz/\zs.all Value.oneCell'=true),.s st.n 0 n.toNat,Br st (.lst e sz (List.replicate n.toNat (zs.map .r))))
    |_=>none
   |_,_,_=>none
 |_=>none
def Ap (x:Option (Prop×AV×AS))(k:AV->AS->Prop):Prop:=match x with
 |some (c,v,s)=>c/\k v s
 |none=>False
def HI (x:Option AV)(k:AV->Prop):Prop:=match x with
 |some v=>k v
 |none=>False
def Ke (f:Option AV)(x:Option (List AV))(k:Nat->List AV->Prop):Prop:=match f,x with
 |some (.fn g caps),some xs=>k g (xs++caps)
 |_,_=>False
theorem ZR (c:Prop)(v:AV)(s:AS)(k:AV->AS->Prop):Ap (some (c,v,s)) k=(c/\k v s):=rfl
theorem ZP (v:AV)(k:AV->Prop):HI (some v) k=k v:=rfl
theorem ZQ (g:Nat)(caps xs:List AV)(k:Nat->List AV->Prop):Ke (some (.fn g caps)) (some xs) k=k g (xs++caps):=rfl
@[congr] theorem YM {x y:Option (Prop×AV×AS)} {k:AV->AS->Prop} (h:x=y):Ap x k=Ap y k:=by rw[h]
theorem Dv (P:Program)(G:List (Nat×List Value))(st:AS)(op:Op)(k:AV->AS->Prop)(h:Ap (D6 P G st op) k):S2 P G st op k:=by
 unfold D6 at h;unfold S2;split at h
 ·split at h<;>(first |exact h.elim |(simp_all [Ap];done) |(simp only[*];exact h))
 ·split at h<;>(first |exact h.elim |(simp_all [Ap];done) |(simp only[*];exact h))
 ·split at h
  ·split at h
   ·split at h<;>(first |exact h.elim |(simp_all [Ap];done) |(simp only[*];exact h))
   ·(first |exact h.elim |(simp_all [Ap];done) |(simp only[*];exact h))
  ·(first |exact h.elim |(simp_all [Ap];done) |(simp only[*];exact h))
 ·split at h
  ·split at h
   ·split at h<;>(first |exact h.elim |(simp_all [Ap];done) |(simp only[*];exact h))
   ·split at h
    ·split at h<;>(first |exact h.elim |(simp_all [Ap];done) |(simp only[*];exact h))
    ·(first |exact h.elim |(simp_all [Ap];done) |(simp only[*];exact h))
   ·(first |exact h.elim |(simp_all [Ap];done) |(simp only[*];exact h))
  ·(first |exact h.elim |(simp_all [Ap];done) |(simp only[*];exact h))
 ·rename_i args ats
  cases hzz:JS P G st args ats with
  |some r=>simp only[hzz] at h ⊢;exact h
  |none=>
  simp only[hzz] at h ⊢;split at h
  ·split at h
   ·split at h
    ·split at h
     ·split at h
      ·(first |exact h.elim |(simp_all [Ap];done) |(simp only[*];exact h))
      ·split at h<;>(first |exact h.elim |(simp_all [Ap];done) |(simp only[*];exact h))
      ·(first |exact h.elim |(simp_all [Ap];done) |(simp only[*];exact h))
     ·(first |exact h.elim |(simp_all [Ap];done) |(simp only[*];exact h))
    ·(first |exact h.elim |(simp_all [Ap];done) |(simp only[*];exact h))
   ·(first |exact h.elim |(simp_all [Ap];done) |(simp only[*];exact h))
  ·(first |exact h.elim |(simp_all [Ap];done) |(simp only[*];exact h))
 ·exact h.elim
 ·split at h
  ·split at h<;>(first |exact h.elim |(simp_all [Ap];done) |(simp only[*];exact h))
  ·(first |exact h.elim |(simp_all [Ap];done) |(simp only[*];exact h))
 ·(first |exact h.elim |(simp_all [Ap];done) |(simp only[*];exact h))
def Fs (P:Program)(G:List (Nat×List Value))(st:AS)(op:Op):Option (Prop×AV×AS):=match D6 P G st op with
 |some r=>some r
 |none=>FY P G st op
theorem F8 {P:Program}{G:List (Nat×List Value)}{st:AS}{op:Op}{k:AV->AS->Prop}(h:Ap (Fs P G st op) k):Ap (D6 P G st op) k\/ ∃c v s,FY P G st op=some (c,v,s)/\c/\k v s:=by
 unfold Fs at h;split at h
 ·rename_i r hr;rw[hr];exact .inl h
 ·cases hu:FY P G st op with
  |none=>rw[hu] at h;exact h.elim
  |some r=>obtain⟨c,v,s⟩:=r;rw[hu] at h;exact .inr ⟨c,v,s,rfl,h⟩
section
variable {P:Program} {E:Env} {N:Nat} {st:AS} {th:List NLoc} {z:AO} {a:Act} {w:World} {d:Option Nat} {t:TypeId} {pos:String} {aft:Array Edge} {g:Option (Nat×Bool)} {k:AV->AS->Prop}
theorem IQ (h:Sim E N st th z a w){T:TypeId}{len:Nat}{parts:Array (Nat×Operand)}(hk:Ap (Fs P E.G st (.buildSlice T len parts)) k):OF P E N ⟨d,.buildSlice T len parts,t,pos,aft,g⟩ a w th [] st.m k true:=by
 rcases F8 hk with hk |⟨c,v,s,h1,h2,h3⟩
 ·exact Mb h (Dv _ _ _ _ _ hk)
 ·exact S0 h h1 h2 h3
theorem Mc (h:Sim E N st th z a w){T:TypeId}{X V:Operand}(hk:Ap (Fs P E.G st (.store T X V)) k):OF P E N ⟨d,.store T X V,t,pos,aft,g⟩ a w th (G_ st E.G (.store T X V)) st.m k false:=by
 rcases F8 hk with hk |⟨c,v,s,h1,h2,h3⟩
 ·exact UY h (Dv _ _ _ _ _ hk)
 ·exact Rz h h1 h2 h3
theorem K_ (h:Sim E N st th z a w){args:Array Operand}{ats:Array TypeId}(hk:Ap (Fs P E.G st (.call {callee:= .builtin .append,args:=args,argTypes:=ats})) k):OF P E N ⟨d,.call {callee:= .builtin .append,args:=args,argTypes:=ats},t,pos,aft,g⟩ a w th (G_ st E.G (.call {callee:= .builtin .append,args:=args,argTypes:=ats})) st.m k false:=by
 rcases F8 hk with hk |⟨c,v,s,h1,h2,h3⟩
 ·exact Ry h (Dv _ _ _ _ _ hk)
 ·exact W7 h h1 h2 h3
theorem GK (h:Sim E N st th z a w){T:TypeId}{r:Option Operand}(hk:Ap (Fs P E.G st (.makeMap T r)) k):OF P E N ⟨d,.makeMap T r,t,pos,aft,g⟩ a w th [] st.m k true:=by
 rcases F8 hk with hk |⟨c,v,s,h1,h2,h3⟩
 ·exact hk.elim
 ·exact Ot h h1 h2 h3
theorem HA (h:Sim E N st th z a w){T:TypeId}{M K V:Operand}(hk:Ap (Fs P E.G st (.mapUpdate T M K V)) k):OF P E N ⟨d,.mapUpdate T M K V,t,pos,aft,g⟩ a w th (G_ st E.G (.mapUpdate T M K V)) st.m k false:=by
 rcases F8 hk with hk |⟨c,v,s,h1,h2,h3⟩
 ·exact hk.elim
 ·exact Md h h1 h2 h3
end
inductive GV where
 |yes |no |bad
 |ask (b w:Bool)
def Jn (ds:List (Option Nat))(st:AS):Option (Nat×Bool)->GV
 |none=> .yes
 |some (j,want)=>match ds[j]? with
  |some (some d)=>match lk st.m d with
   |some (.r (.bool b))=> .ask b want
   |some (.r (.tuple _))=> .no
   |_=> .bad
  |_=> .bad
def FC (g:GV)(y n:Prop):Prop:=match g with
 | .yes=>y
 | .no=>n
 | .bad=>False
 | .ask b w=>(b=w->y)/\(b= !w->n)
@[congr] theorem Xp {g g':GV} {y n:Prop} (h:g=g'):FC g y n=FC g' y n:=by rw[h]
theorem ZO (y n:Prop):FC .yes y n=y:=rfl
theorem A0L (y n:Prop):FC .no y n=n:=rfl
def NT (P:Program)(E:Env)(N:Nat)(st:AS)(op:Op)(k kp:AV->AS->Prop):Prop:=
 match op with
 | .call {callee:= .value f,args,..}=>Ke (ev st E.G f) (FV st E.G args.toList) (fun g xs=>CallV P E N g xs st k kp)
 | .call {callee:= .builtin .append,args,argTypes}=>Ap (Fs P E.G st (.call {callee:= .builtin .append,args:=args,argTypes:=argTypes})) k
 | .call {callee:= .builtin .clear,args,argTypes}=>Ap (D6 P E.G st (.call {callee:= .builtin .clear,args:=args,argTypes:=argTypes})) k
 | .box T x=>Ap (D6 P E.G st (.box T x)) k
 | .alloc T=>Ap (D6 P E.G st (.alloc T)) k
 | .buildSlice T n ps=>Ap (Fs P E.G st (.buildSlice T n ps)) k
 | .store T x v=>Ap (Fs P E.G st (.store T x v)) k
 | .makeMap T r=>Ap (Fs P E.G st (.makeMap T r)) k
 | .mapUpdate T m i v=>Ap (Fs P E.G st (.mapUpdate T m i v)) k
 | .makeSlice T l c=>Ap (D6 P E.G st (.makeSlice T l c)) k
 | .panic x=>HI (ev st E.G x) (fun v=>match v with
   | .ifc t v=>kp (.ifc t v) st
   |_=>False)
 |op=>HI (qv P E.G st op) (fun v=>k v st)
def Hp (P:Program)(E:Env)(N:Nat)(ds:List (Option Nat))(kp:AV->AS->Prop):List Oper->AS->(AS->Prop)->Prop
 | [],st,K=>K st
 |o::rest,st,K=>FC (Jn ds st o.guard) (NT P E N st o.op (fun v st'=>Hp P E N ds kp rest (st'.put o.dst v) K) kp) (Hp P E N ds kp rest (st.put o.dst (.r (.tuple #[]))) K)
def Bf (ops:Array Oper):List (Option Nat):=ops.toList.map (·.dst)
section
variable {P:Program} {E:Env} {N:Nat} {st:AS} {th:List NLoc} {z:AO} {a:Act} {w:World}
theorem B8 {o:Oper}{k:AV->AS->Prop}{b:Bool}{ts:List Nat}{next:Act->World->Prop}{Q:Exit->Act->World->Prop}(he:OF P E N o a w th ts st.m k b)(hd: ∀i,o.dst=some i->i<N)
  (hn: ∀x st' th' z' a' w',k x st'->st'.m=st.m->Sim E N (st'.put o.dst x) th' z' a' w'->(b=true->Ext w w')->next a' w'):o.wp P a w next Q:=by
 obtain⟨v,x,st',th',z',w',hrun,hk,hs,hr,hm,hx,_,_⟩:=he;unfold Oper.wp
 rcases hrun with hrun |⟨hrun,rfl⟩
 ·rw[hrun,fQ];exact hn x st' th' z' _ w' hk hm (hs.put hr o.dst hd) hx
 ·rw[hrun,Oper.upon_skip];exact hn x st' th' z' _ w' hk hm (hs.put hr o.dst hd) hx
theorem Sim.eval_r (h:Sim E N st th z a w){x:Operand}{v:Value}(he:ev st E.G x=some (.r v)):a.eval x=v:=(AL h he).r_inv
theorem KE (h:Sim E N st th z a w)(o:Oper){k kp:AV->AS->Prop}(hk:NT P E N st o.op k kp)(hd: ∀i,o.dst=some i->i<N){next:Act->World->Prop}{Q:Exit->Act->World->Prop}
  (hn: ∀x st' th' z' a' w',k x st'->Sim E N (st'.put o.dst x) th' z' a' w'->next a' w') (hp: ∀x v st' th' z' w',kp x st'->Sim E N st' th' z' a w'->Rep w' z' th' x v->Q (.panic [{v:=v,recovered:=false}]) a w'):o.wp P a w next Q:=by
 obtain⟨dst,op,ty,pos,aft,gd⟩:=o;simp only at hk;unfold NT at hk;split at hk
 ·rename_i f args ats
  unfold Ke at hk;split at hk
  ·rename_i g caps xs hf hx
   obtain⟨hok,hc⟩:=hk;have hf':=AL h hf;generalize hv:a.eval f=fv at hf'
   cases hf' with
   |fn _ _ _ ys hl hxx=>
    have hr:=(Bo h hx).append ⟨hl,hxx⟩;have hcall:=hc th z a w _ h hr;unfold Oper.wp
    have hrun:(execOp a.eval ⟨dst,.call {callee:= .value f,args:=args,argTypes:=ats},ty,pos,aft,gd⟩).run P w= .ok (.enter g (List.map a.eval args.toList++ys).toArray) w:=by
     simp only[execOp,resolve,hv,Deferred.ofValue,aQ,bT,aL,invoke];rw[ES hok]
     congr 2
     apply gN;simp
    rw[hrun,Oper.upon_enter];refine hcall.mono ?_;rintro e w' ⟨v,x,st',th',z',hh,hm,hs,hrr⟩
    rcases hh with ⟨rfl,hk⟩ |⟨rfl,hk⟩
    ·exact hn x st' th' z' _ w' hk (hs.put hrr dst hd)
    ·exact hp x v st' th' z' w' hk hs hrr
  ·exact hk.elim
 ·exact B8 (K_ h hk) hd (fun x st' th' z' a' w' h1 _ h2 _=>hn x st' th' z' a' w' h1 h2)
 ·exact B8 (UZ h (Dv _ _ _ _ _ hk)) hd (fun x st' th' z' a' w' h1 _ h2 _=>hn x st' th' z' a' w' h1 h2)
 ·exact B8 (Oq h (Dv _ _ _ _ _ hk)) hd (fun x st' th' z' a' w' h1 _ h2 _=>hn x st' th' z' a' w' h1 h2)
 ·exact B8 (Jz h (Dv _ _ _ _ _ hk)) hd (fun x st' th' z' a' w' h1 _ h2 _=>hn x st' th' z' a' w' h1 h2)
 ·exact B8 (IQ h hk) hd (fun x st' th' z' a' w' h1 _ h2 _=>hn x st' th' z' a' w' h1 h2)
 ·exact B8 (Mc h hk) hd (fun x st' th' z' a' w' h1 _ h2 _=>hn x st' th' z' a' w' h1 h2)
 ·exact B8 (GK h hk) hd (fun x st' th' z' a' w' h1 _ h2 _=>hn x st' th' z' a' w' h1 h2)
 ·exact B8 (HA h hk) hd (fun x st' th' z' a' w' h1 _ h2 _=>hn x st' th' z' a' w' h1 h2)
 ·exact B8 (FX h (Dv _ _ _ _ _ hk)) hd (fun x st' th' z' a' w' h1 _ h2 _=>hn x st' th' z' a' w' h1 h2)
 ·rename_i px
  unfold HI at hk;split at hk;rotate_left
  ·exact hk.elim
  rename_i vx he;split at hk
  ·rename_i t v
   have hr:=AL h he;generalize hv:a.eval px=fv at hr
   cases hr with
   |ifc _ _ _ u hu=>
    unfold Oper.wp
    have hrun:(execOp a.eval ⟨dst,.panic px,ty,pos,aft,gd⟩).run P w= .halt (.panic (.iface t u)) w:=by
     simp only[execOp,hv,Instr.panic];rfl
    rw[hrun,Oper.upon_panic];exact hp _ _ st th z w hk h (.ifc th t v u hu)
  ·exact hk.elim
 ·unfold HI at hk
  split at hk
  ·rename_i v hq
   obtain⟨u,hr,hrun⟩:=Eu h ⟨dst,op,ty,pos,aft,gd⟩ hq;unfold Oper.wp;rw[hrun w SameK.refl,fQ];exact hn v st th z _ w hk (h.put hr dst hd)
  ·exact hk.elim
theorem OG (h:Sim E N st th z a w){ops:Array Oper}{j d:Nat}(hd:(ops[j]?).bind (·.dst)=some d){b:Bool}(hl:lk st.m d=some (.r (.bool b))):yielded ops a.tmps j=some b:=by
 obtain⟨y,hy,hr⟩:=h.slots d _ hl;have:=hr.r_inv;subst this;simp[yielded,hd,hy]
theorem N6 (h:Sim E N st th z a w){ops:Array Oper}{j d:Nat}(hd:(ops[j]?).bind (·.dst)=some d){vs:Array Value}(hl:lk st.m d=some (.r (.tuple vs))):yielded ops a.tmps j=none:=by
 obtain⟨y,hy,hr⟩:=h.slots d _ hl;have:=hr.r_inv;subst this;simp[yielded,hd,hy]
theorem Xq {b w:Bool}(h: ¬b=w):b= !w:=by cases b<;>cases w<;>simp at h ⊢
theorem DP (h:Sim E N st th z a w){ops:Array Oper}{o:Oper}{y n:Prop}(hx:FC (Jn (Bf ops) st o.guard) y n):(Region.wanted o (yielded ops a.tmps)=true/\y)\/(Region.wanted o (yielded ops a.tmps)=false/\n):=by
 generalize hg:o.guard=g at hx
 cases g with
 |none=>exact .inl ⟨by simp[Region.wanted,hg],hx⟩
 |some p=>
  obtain⟨j,want⟩:=p;unfold Jn at hx;simp only at hx
  have hds:(Bf ops)[j]?=(ops[j]?).map (·.dst):=by simp[Bf]
  rw[hds] at hx
  cases ho:ops[j]? with
  |none=>rw[ho] at hx;exact hx.elim
  |some oj=>
   rw[ho] at hx;simp only[Option.map_some] at hx
   cases hd:oj.dst with
   |none=>rw[hd] at hx;exact hx.elim
   |some d=>
   rw[hd] at hx
   have hdj:(ops[j]?).bind (·.dst)=some d:=by rw[ho];exact hd
   simp only at hx;split at hx
   ·rename_i b hl
    have hy:=OG h hdj hl
    by_cases hb:b=want
    ·exact .inl ⟨by simp[Region.wanted,hg,hy,hb],hx.1 hb⟩
    ·exact .inr ⟨by simp[Region.wanted,hg,hy,hb],hx.2 (Xq hb)⟩
   ·rename_i vs hl
    have hy:=N6 h hdj hl;exact .inr ⟨by simp[Region.wanted,hg,hy],hx⟩
   ·exact hx.elim
theorem DL {ops:Array Oper}{kp:AV->AS->Prop}{Q:Exit->Act->World->Prop}{K:AS->Prop}(hp: ∀x v st' th' z' a' w',kp x st'->Sim E N st' th' z' a' w'->Rep w' z' th' x v->Q (.panic [{v:=v,recovered:=false}]) a' w')
  (hK: ∀st' th' z' a' w',K st'->Sim E N st' th' z' a' w'->Q .normal a' w'): ∀(l:List Oper),(∀o ∈ l,∀i,o.dst=some i->i<N)-> ∀ {st:AS}{th:List NLoc}{z:AO}{a:Act}{w:World},Sim E N st th z a w->Hp P E N (Bf ops) kp l st K->wpList P ops Q l a w
 | [],_,st,th,z,a,w,h,hx=>hK st th z a w hx h
 |o::rest,hd,st,th,z,a,w,h,hx=>by
  have ih: ∀ {st:AS}{th:List NLoc}{z:AO}{a:Act}{w:World},Sim E N st th z a w->Hp P E N (Bf ops) kp rest st K->wpList P ops Q rest a w:=DL hp hK rest (fun o ho=>hd o (by simp[ho]));have hdo:=hd o (by simp);have go:NT P E N st o.op (fun v st'=>Hp P E N (Bf ops) kp rest (st'.put o.dst v) K) kp->o.wp P a w (wpList P ops Q rest) Q:=fun hs=>
   KE h o hs hdo (fun x st' th' z' a' w' h1 h2=>ih h2 h1) (fun x v st' th' z' w' h1 h2 h3=>hp x v st' th' z' a w' h1 h2 h3)
  have skip:Hp P E N (Bf ops) kp rest (st.put o.dst (.r (.tuple #[]))) K->wpList P ops Q rest (a.put o.dst undef) w:=fun hs=>ih (h.put (.r th undef) o.dst hdo) hs;unfold Hp at hx;unfold wpList
  rcases DP h hx with ⟨hw,hs⟩ |⟨hw,hs⟩
  ·rw[if_pos hw];exact .inl (go hs)
  ·rw[if_neg (by rw[hw];exact dM)];exact skip hs
inductive AExit where
 |normal
 |exit (id:Nat)
 |ret
 |pan (v:AV)
def QOK (E:Env)(N:Nat)(Q:Exit->Act->World->Prop)(AQ:AExit->AS->Prop):Prop:=
 (∀st th z a w,AQ .normal st->Sim E N st th z a w->Q .normal a w)/\(∀id st th z a w,AQ (.exit id) st->Sim E N st th z a w->Q (.exit id) a w)/\(∀st th z a w,AQ .ret st->Sim E N st th z a w->Q .ret a w)/\
  ∀x v st th z w,AQ (.pan x) st->Mem E st.o st.n th z w->Rep w z th x v-> ∀a:Act,a.defers=E.ds->Q (.panic [{v:=v,recovered:=false}]) a w
def AWP (P:Program)(E:Env)(N:Nat)(c:Code)(st:AS)(AQ:AExit->AS->Prop):Prop:=
 ∀Q,QOK E N Q AQ-> ∀th z a w,Sim E N st th z a w->c.wp P Q a w
def DS (N:Nat)(ops:Array Oper):Bool:=ops.all fun o=>match o.dst with |some d=>decide (d<N) |none=>true
theorem Cq {ops:Array Oper}(h:DS N ops=true): ∀o ∈ ops.toList,∀i,o.dst=some i->i<N:=by
 intro o ho i hi;simp only[DS,Array.all_eq_true',Array.mem_def] at h;have:=h o ho;rw[hi] at this;simpa using this
variable {AQ:AExit->AS->Prop}
theorem SM {id:Nat}{ops:Array Oper}{ds:List (Option Nat)}{l:List Oper}(hd:DS N ops=true)(hds:Bf ops=ds)(hl:ops.toList=l)(h:Hp P E N ds (fun x st=>AQ (.pan x) st) l st (AQ .normal)):AWP P E N (.region id ops false) st AQ:=by
 subst hds hl;exact fun _ hQ _ _ _ _ hs=>wp_region_list (DL (fun x v st' th' z' a' w' h1 h2 h3=>hQ.2.2.2 x v st' th' z' w' h1 h2.mem h3 a' h2.dfs) (fun st' th' z' a' w' h1 h2=>hQ.1 st' th' z' a' w' h1 h2) ops.toList (Cq hd) hs h)
@[congr] theorem A0M {c:Code} {st st':AS} (h:st=st'):AWP P E N c st AQ=AWP P E N c st' AQ:=by rw[h]
theorem A3 (h:AQ .normal st):AWP P E N .skip st AQ:=fun _ hQ th z a w hs=>wp_skip (hQ.1 st th z a w h hs)
theorem A7 {id:Nat}(h:AQ (.exit id) st):AWP P E N (.exit id) st AQ:=fun _ hQ th z a w hs=>wp_exit (hQ.2.1 id st th z a w h hs)
theorem A5 (h:AQ .ret st):AWP P E N .ret st AQ:=fun _ hQ th z a w hs=>wp_ret (hQ.2.2.1 st th z a w h hs)
def DX (K:AS->Prop)(AQ:AExit->AS->Prop):AExit->AS->Prop
 | .normal,st=>K st
 |e,st=>AQ e st
def K5 (id:Nat)(AQ:AExit->AS->Prop):AExit->AS->Prop
 | .exit id',st=>match Nat.beq id' id with
   |true=>AQ .normal st
   |false=>AQ (.exit id') st
 |e,st=>AQ e st
theorem A0 {x y:Code}(h:AWP P E N x st (DX (fun st'=>AWP P E N y st' AQ) AQ)):AWP P E N (.seq x y) st AQ:=by
 intro Q hQ th z a w hs;refine wp_seq (h _ ⟨?_,?_,?_,?_⟩ th z a w hs)
 ·intro st' th' z' a' w' h1 h2;exact h1 Q hQ th' z' a' w' h2
 ·intro id st' th' z' a' w' h1 h2;exact hQ.2.1 id st' th' z' a' w' h1 h2
 ·intro st' th' z' a' w' h1 h2;exact hQ.2.2.1 st' th' z' a' w' h1 h2
 ·intro x v st' th' z' w' h1 h2 h3 a' h4;exact hQ.2.2.2 x v st' th' z' w' h1 h2 h3 a' h4
theorem AWP.mono {c:Code}{AQ':AExit->AS->Prop}(h:AWP P E N c st AQ)(hq: ∀e st,AQ e st->AQ' e st):AWP P E N c st AQ':=fun Q hQ=>
 h Q ⟨fun st th z a w h1 h2=>hQ.1 st th z a w (hq _ _ h1) h2,fun id st th z a w h1 h2=>hQ.2.1 id st th z a w (hq _ _ h1) h2,fun st th z a w h1 h2=>hQ.2.2.1 st th z a w (hq _ _ h1) h2,fun x v st th z w h1 h2 h3 a h4=>hQ.2.2.2 x v st th z w (hq _ _ h1) h2 h3 a h4⟩
theorem A4 {id:Nat}{c:Code}(h:AWP P E N c st (K5 id AQ)):AWP P E N (.block id c) st AQ:=by
 intro Q hQ th z a w hs;refine wp_block (h _ ⟨?_,?_,?_,?_⟩ th z a w hs)
 ·intro st' th' z' a' w' h1 h2;exact hQ.1 st' th' z' a' w' h1 h2
 ·intro id' st' th' z' a' w' h1 h2
  simp only[K5] at h1;simp only[Exit.inBlock];split at h1
  ·rename_i e;rw[if_pos (gJ e)];exact hQ.1 st' th' z' a' w' h1 h2
  ·rename_i e;rw[if_neg (Nat.ne_of_beq_eq_false e)];exact hQ.2.1 id' st' th' z' a' w' h1 h2
 ·intro st' th' z' a' w' h1 h2;exact hQ.2.2.1 st' th' z' a' w' h1 h2
 ·intro x v st' th' z' w' h1 h2 h3 a' h4;exact hQ.2.2.2 x v st' th' z' w' h1 h2 h3 a' h4
theorem A6 {c:Operand}{x y:Code}{b:Bool}(hc:ev st E.G c=some (.r (.bool b)))(ht:b=true->AWP P E N x st AQ)(hf:b=false->AWP P E N y st AQ):AWP P E N (.cond c x y) st AQ:=by
 intro Q hQ th z a w hs;exact wp_cond_split (hs.eval_r hc) (fun h=>ht h Q hQ th z a w hs) (fun h=>hf h Q hQ th z a w hs)
theorem A2 {c:Operand}{x y:Code}(hc:ev st E.G c=some (.r (.bool true)))(ht:AWP P E N x st AQ):AWP P E N (.cond c x y) st AQ:=A6 hc (fun _=>ht) (fun h=>by cases h)
theorem A1 {c:Operand}{x y:Code}(hc:ev st E.G c=some (.r (.bool false)))(hf:AWP P E N y st AQ):AWP P E N (.cond c x y) st AQ:=A6 hc (fun h=>by cases h) (fun _=>hf)
end
mutual
def ren (f:Nat->Nat):AV->AV
 | .s n lo len=> .s (f n) lo len
 | .p n i off=> .p (f n) i off
 | .agg c=> .agg (renL f c)
 | .tup c=> .tup (renL f c)
 | .fn g c=> .fn g (renL f c)
 | .ifc t x=> .ifc t (ren f x)
 | .r v=> .r v
 | .ro t k els=> .ro t k els
 | .re t c off=> .re t c off
 | .q n=> .q (f n)
 | .u T k els=> .u T k els
 | .any=> .any
def renL (f:Nat->Nat):List AV->List AV
 | []=>[]
 |x::r=>ren f x::renL f r
end
def BH (f:Nat->Nat):List (Nat×Nat×AV)->List (Nat×Nat×AV)
 | []=>[]
 |(i,j,x)::r=>(i,j,ren f x)::BH f r
def AA (f:Nat->Nat):Nd->Nd
 | .box T c=> .box T (renL f c)
 | .lst T k els=> .lst T k els
 | .ul T k els op=> .ul T k els (BH f op)
 | .mp l=> .mp l
theorem Oc (f:Nat->Nat): ∀(op:List (Nat×Nat×AV))(i j:Nat),F0 (BH f op) i j=(F0 op i j).map (ren f)
 | [],i,j=>rfl
 |(p,q,x)::r,i,j=>by
  simp only[BH,F0];split
  ·rfl
  ·exact Oc f r i j
theorem D_ (f:Nat->Nat): ∀(c:List AV)(i:Nat),(renL f c)[i]?=(c[i]?).map (ren f)
 | [],i=>by simp[renL]
 |x::r,0=>by simp[renL]
 |x::r,i+1=>by simp[renL,D_ f r i]
theorem C6 (f:Nat->Nat): ∀c:List AV,(renL f c).length=c.length
 | []=>rfl
 |x::r=>by simp[renL,C6 f r]
section
variable {w:World} {z:AO}
theorem Rep.unren {f:Nat->Nat}{th th':List NLoc}{y:AV}{v:Value}(h:Rep w z th y v)(hf: ∀(i:Nat) L,th[f i]?=some L->th'[i]?=some L): ∀x,y=ren f x->Rep w z th' x v:=by
 induction h with
 |r th v=>intro x hx;cases x<;>simp[ren] at hx;subst hx;exact .r _ _
 |nil th t k a c=>intro x hx;cases x<;>simp[ren] at hx;obtain⟨rfl,rfl,rfl⟩:=hx;exact .nil _ _ _ _ _
 |ro th t k els b o c ys hz hc hk hy h1 hx ih=>intro x hx';cases x<;>simp[ren] at hx';obtain⟨rfl,rfl,rfl⟩:=hx';exact .ro _ _ _ _ b o c ys hz hc hk hy h1 hx
 |re th t c b o off ys hz hy hx ih=>intro x hx';cases x<;>simp[ren] at hx';obtain⟨rfl,rfl,rfl⟩:=hx';exact .re _ _ _ b o _ ys hz hy hx
 |s th n lo len c o L hL hp hl hc ho=>intro x hx;cases x<;>simp[ren] at hx;obtain⟨rfl,rfl,rfl⟩:=hx;exact .s _ _ _ _ c o L (hf _ _ hL) hp hl hc ho
 |sn th n lo L hL hp=>intro x hx;cases x<;>simp[ren] at hx;obtain⟨rfl,rfl,rfl⟩:=hx;exact .sn _ _ _ L (hf _ _ hL) hp
 |p th n i off L hL=>intro x hx;cases x<;>simp[ren] at hx;obtain⟨rfl,rfl,rfl⟩:=hx;exact .p _ _ _ _ L (hf _ _ hL)
 |agg th c ys hl hx ih=>
  intro x hx';cases x<;>simp[ren] at hx';subst hx'
  refine .agg _ _ ys (by rw[hl,C6]) (fun i x y h1 h2=>ih i (ren f x) y (by rw[D_,h1];rfl) h2 hf x rfl)
 |tup th c ys hl hx ih=>
  intro x hx';cases x<;>simp[ren] at hx';subst hx'
  refine .tup _ _ ys (by rw[hl,C6]) (fun i x y h1 h2=>ih i (ren f x) y (by rw[D_,h1];rfl) h2 hf x rfl)
 |fn th g c ys hl hx ih=>
  intro x hx';cases x<;>simp[ren] at hx';obtain⟨rfl,rfl⟩:=hx'
  refine .fn _ _ _ ys (by rw[hl,C6]) (fun i x y h1 h2=>ih i (ren f x) y (by rw[D_,h1];rfl) h2 hf x rfl)
 |ifc th t y v hx ih=>
  intro x hx';cases x<;>simp[ren] at hx';obtain⟨rfl,rfl⟩:=hx'
  exact .ifc _ _ _ _ (ih hf _ rfl)
 |q th n L hL=>intro x hx;cases x<;>simp[ren] at hx;subst hx;exact .q _ _ L (hf _ _ hL)
 |any th v=>intro x hx;cases x<;>simp[ren] at hx;exact .any _ _
theorem Rep.ren {f:Nat->Nat}{th th':List NLoc}{x:AV}{v:Value}(h:Rep w z th x v)(hf: ∀(i:Nat) L,th[i]?=some L->th'[f i]?=some L):Rep w z th' (ren f x) v:=by
 induction h with
 |r th v=>exact .r _ _
 |nil th t k a c=>exact .nil _ _ _ _ _
 |ro th t k els b o c ys hz hc hk hy h1 hx ih=>exact .ro _ _ _ _ b o c ys hz hc hk hy h1 hx
 |re th t c b o off ys hz hy hx ih=>exact .re _ _ _ b o _ ys hz hy hx
 |s th n lo len c o L hL hp hl hc ho=>exact .s _ _ _ _ c o L (hf _ _ hL) hp hl hc ho
 |sn th n lo L hL hp=>exact .sn _ _ _ L (hf _ _ hL) hp
 |p th n i off L hL=>exact .p _ _ _ _ L (hf _ _ hL)
 |agg th c ys hl hx ih=>
  refine .agg _ _ ys (by rw[hl,C6]) (fun i x y h1 h2=>?_);rw[D_,aF] at h1;obtain⟨x',h3,rfl⟩:=h1;exact ih i x' y h3 h2 hf
 |tup th c ys hl hx ih=>
  refine .tup _ _ ys (by rw[hl,C6]) (fun i x y h1 h2=>?_);rw[D_,aF] at h1;obtain⟨x',h3,rfl⟩:=h1;exact ih i x' y h3 h2 hf
 |fn th g c ys hl hx ih=>
  refine .fn _ _ _ ys (by rw[hl,C6]) (fun i x y h1 h2=>?_);rw[D_,aF] at h1;obtain⟨x',h3,rfl⟩:=h1;exact ih i x' y h3 h2 hf
 |ifc th t y v hx ih=>exact .ifc _ _ _ _ (ih hf)
 |q th n L hL=>exact .q _ _ L (hf _ _ hL)
 |any th v=>exact .any _ _
theorem Reps.unren {f:Nat->Nat}{th th':List NLoc}{c:List AV}{ys:List Value}(h:Reps w z th (renL f c) ys)(hf: ∀(i:Nat) L,th[f i]?=some L->th'[i]?=some L):Reps w z th' c ys:=
 ⟨by rw[h.1,C6],fun i x y h1 h2=>(h.2 i (Go.AM.ren f x) y (by rw[D_,h1];rfl) h2).unren hf x rfl⟩
theorem Reps.ren {f:Nat->Nat}{th th':List NLoc}{c:List AV}{ys:List Value}(h:Reps w z th c ys)(hf: ∀(i:Nat) L,th[i]?=some L->th'[f i]?=some L):Reps w z th' (renL f c) ys:=by
 refine⟨by rw[h.1,C6],fun i x y h1 h2=>?_⟩;rw[D_,aF] at h1;obtain⟨x',h3,rfl⟩:=h1;exact(h.2 i x' y h3 h2).ren hf
theorem NdAt.unren {f:Nat->Nat}{th th':List NLoc}{L:NLoc}{nd:Nd}(h:NdAt w z th L (AA f nd))(hf: ∀(i:Nat) L,th[f i]?=some L->th'[i]?=some L):NdAt w z th' L nd:=by
 cases nd with
 |box T c=>obtain⟨hp,cells,fr,h1,h2,h3,h4⟩:=h;exact⟨hp,cells,fr,h1,h2,h3,h4.unren hf⟩
 |lst T k els=>exact h
 |ul T k els op=>exact h
 |mp l=>exact h
theorem NdAt.ren {f:Nat->Nat}{th th':List NLoc}{L:NLoc}{nd:Nd}(h:NdAt w z th L nd)(hf: ∀(i:Nat) L,th[i]?=some L->th'[f i]?=some L):NdAt w z th' L (AA f nd):=by
 cases nd with
 |box T c=>obtain⟨hp,cells,fr,h1,h2,h3,h4⟩:=h;exact⟨hp,cells,fr,h1,h2,h3,h4.ren hf⟩
 |lst T k els=>exact h
 |ul T k els op=>exact h
 |mp l=>exact h
theorem UlAt.unren {f:Nat->Nat}{th th':List NLoc}{U:Nat->Prop}{L:NLoc}{els:List (List AV)}{op:List (Nat×Nat×AV)}(h:UlAt w z th U L els (BH f op))(hf: ∀(i:Nat) L,th[f i]?=some L->th'[i]?=some L):UlAt w z th' U L els op:=by
 obtain⟨F,h1,h2,h3⟩:=h;refine⟨F,h1,h2,fun i e he j x hx=>?_⟩;obtain⟨y,hy,ho,hc⟩:=h3 i e he j x hx;refine⟨y,hy,ho,?_⟩;unfold CellU at hc ⊢;rw[Oc] at hc
 cases hl:F0 op i j with
 |some x'=>rw[hl] at hc;exact Rep.unren hc hf x' rfl
 |none=>rw[hl] at hc;exact hc
theorem UlAt.ren {f:Nat->Nat}{th th':List NLoc}{U:Nat->Prop}{L:NLoc}{els:List (List AV)}{op:List (Nat×Nat×AV)}(h:UlAt w z th U L els op)(hf: ∀(i:Nat) L,th[i]?=some L->th'[f i]?=some L):UlAt w z th' U L els (BH f op):=by
 obtain⟨F,h1,h2,h3⟩:=h;refine⟨F,h1,h2,fun i e he j x hx=>?_⟩;obtain⟨y,hy,ho,hc⟩:=h3 i e he j x hx;refine⟨y,hy,ho,?_⟩;unfold CellU at hc ⊢;rw[Oc]
 cases hl:F0 op i j with
 |some x'=>rw[hl] at hc;exact Rep.ren hc hf
 |none=>rw[hl] at hc;exact hc
end
def AU (ρ:List Nat)(i:Nat):Nat:=match ρ[i]? with
 |some j=>j
 |none=>i+1000000000
section
variable {P:Program} {E:Env} {N:Nat} {st:AS} {th:List NLoc} {z:AO} {a:Act} {w:World}
def Emb (E:Env)(N:Nat)(st st':AS):Prop:= ∀th z a w,Sim E N st th z a w-> ∃th' z',Sim E N st' th' z' a w
def AY (ρ:List Nat)(o o':List (Nat×Nd)):Prop:= ∀p ∈ o',∃j,ρ[p.1]?=some j/\lk o j=some (AA (AU ρ) p.2)
def Ai (ρ:List Nat)(m m':List (Nat×AV)):Prop:= ∀p ∈ m',lk m p.1=some (ren (AU ρ) p.2)
theorem CD {α:Type}: ∀ {o:List (Nat×α)}{i:Nat}{x:α},lk o i=some x->(i,x) ∈ o
 | [],_,_,h=>by simp[lk] at h
 |(j,y)::r,i,x,h=>by
  simp only[lk] at h;split at h
  ·rename_i e;subst e;cases h;simp
  ·exact gM _ (CD h)
def Dn (th:List NLoc)(ρ:List Nat):List NLoc:=ρ.map fun j=>(th[j]?).getD ⟨0,0,0,0,false⟩
theorem Ay {ρ:List Nat}(hr: ∀j ∈ ρ,j<th.length){i j:Nat}(h:ρ[i]?=some j):(Dn th ρ)[i]?=th[j]?:=by
 have:=hr j (aB h);simp[Dn,h,this]
theorem DY {ρ:List Nat}(hr: ∀j ∈ ρ,j<th.length)(hb:th.length≤1000000000)(i:Nat)(L:NLoc)(h:th[AU ρ i]?=some L):(Dn th ρ)[i]?=some L:=by
 unfold AU at h;split at h
 ·rename_i j hj;rw[Ay hr hj];exact h
 ·have:=(aA.1 h).1;omega
theorem UlOK.ren {U:Nat->Nat->Prop}{o o':List (Nat×Nd)}(hU:UlOK U E o th z w){ρ:List Nat}(hr': ∀j ∈ ρ,j<th.length)(hb':th.length≤1000000000)(hnd:ρ.Nodup)(get: ∀i nd,lk o' i=some nd-> ∃j,ρ[i]?=some j/\lk o j=some (AA (AU ρ) nd)):
  UlOK (fun i b=> ∃j,ρ[i]?=some j/\U j b) E o' (Dn th ρ) z w:=by
 refine⟨fun i T k els op L hi hL=>?_,fun i b ⟨j,_,hb⟩=>hU.lt j b hb,fun i b ⟨j,_,hb⟩=>hU.nz j b hb,fun i b ⟨j,_,hb⟩=>hU.ow j b hb,fun i i' b ⟨j,hj,hb⟩ ⟨j',hj',hb'⟩=>?_,fun i nd L q hi hL hp ⟨j',_,hb⟩=>?_⟩
 ·obtain⟨j,hj,hnd'⟩:=get i _ hi
  rw[Ay hr' hj] at hL;obtain⟨F,h1,h2,h3⟩:=(hU.at_ j T k els _ L hnd' hL).unren (DY hr' hb');exact⟨F,fun a b c hc=>⟨j,hj,h1 a b c hc⟩,h2,h3⟩
 ·have:=hU.inj j j' b hb hb'
  subst this;obtain⟨l1,e1⟩:=aA.1 hj;exact(fD l1 hnd).1 (hj.trans hj'.symm)
 ·obtain⟨j,hj,hnd'⟩:=get i _ hi
  rw[Ay hr' hj] at hL;exact hU.kn j _ L j' hnd' hL hp hb
theorem Mem.ren {o o':List (Nat×Nd)}{n:Nat}(h:Mem E o n th z w)(ρ:List Nat)(hr: ∀j ∈ ρ,j<n)(hb:n≤1000000000)(ho:AY ρ o o')(hpre: ∀i,i<E.th0.length->ρ[i]?=some i)(hnd:ρ.Nodup):Mem E o' ρ.length (Dn th ρ) z w:=by
 have hr': ∀j ∈ ρ,j<th.length:=fun j hj=>by rw[h.len];exact hr j hj
 have hb':th.length≤1000000000:=by rw[h.len];exact hb
 have get: ∀i nd,lk o' i=some nd-> ∃j,ρ[i]?=some j/\lk o j=some (AA (AU ρ) nd):=fun i nd hi=>ho _ (CD hi);refine⟨by simp[Dn],fun i nd hi=>?_,fun i i' x y L M hi hi' hL hM e1 e2 hbb=>?_,h.zlt,h.grow,h.frame,h.zin,h.zout,h.zb,h.globs,fun i L hi=>?_,h.sys,?_⟩
 ·obtain⟨j,hj,hnd⟩:=get i nd hi
  obtain⟨L,k1,k2,k3⟩:=h.nds j _ hnd;exact⟨L,by rw[Ay hr' hj];exact k1,k2.unren (DY hr' hb'),k3⟩
 ·obtain⟨j,hj,hx⟩:=get i x hi
  obtain⟨j',hj',hy⟩:=get i' y hi';rw[Ay hr' hj] at hL;rw[Ay hr' hj'] at hM;have:=h.inj j j' _ _ L M hx hy hL hM e1 e2 hbb;subst this;obtain⟨l1,e1⟩:=aA.1 hj;obtain⟨l2,e2⟩:=aA.1 hj';exact(fD l1 hnd).1 (hj.trans hj'.symm)
 ·have hi':i<E.th0.length:=(aA.1 hi).1
  rw[Ay hr' (hpre i hi')];exact h.pre i L hi
 ·obtain⟨U,hU⟩:=h.uls
  exact⟨_,hU.ren hr' hb' hnd get⟩
theorem emb (ρ:List Nat){st st':AS}(hm:Ai ρ st.m st'.m)(ho:AY ρ st.o st'.o)(hn:st'.n=ρ.length)(hr: ∀j ∈ ρ,j<st.n)(hb:st.n≤1000000000)(hpre: ∀i,i<E.th0.length->ρ[i]?=some i)(hnd:ρ.Nodup):Emb E N st st':=by
 intro th z a w h;refine⟨Dn th ρ,z,?_,h.size,h.dfs,fun i x hi=>?_⟩
 ·rw[hn];exact h.mem.ren ρ hr hb ho hpre hnd
 ·obtain⟨y,hy,hrep⟩:=h.slots i _ (hm _ (CD hi))
  exact⟨y,hy,hrep.unren (DY (fun j hj=>by rw[h.mem.len];exact hr j hj) (by rw[h.mem.len];exact hb)) x rfl⟩
def memB (i:Nat):List Nat->Bool
 | []=>false
 |x::r=>Nat.beq x i||memB i r
def ndB:List Nat->Bool
 | []=>true
 |x::r=> !memB x r&&ndB r
def ltB (n:Nat):List Nat->Bool
 | []=>true
 |x::r=>Nat.blt x n&&ltB n r
def VR:Nat->Nat->List Nat->Bool
 |0,_,_=>true
 |_+1,_,[]=>false
 |k+1,i,x::r=>Nat.beq x i&&VR k (i+1) r
def VK (k:Nat)(ρ:List Nat)(n m:Nat):Bool:=VR k 0 ρ&&(ndB ρ&&(ltB n ρ&&(Nat.ble n 1000000000&&Nat.beq m ρ.length)))
theorem Nl {i:Nat}: ∀ {l:List Nat},memB i l=false->i ∉ l
 | [],_,h=>by cases h
 |x::r,hb,h=>by
  simp only[memB,fJ] at hb
  rcases bA.1 h with rfl |h
  ·have:=hb.1;simp at this
  ·exact Nl hb.2 h
theorem Pu: ∀ {l:List Nat},ndB l=true->l.Nodup
 | [],_=>fG
 |x::r,h=>by
  simp only[ndB,aJ,eH] at h;exact dY.2 ⟨Nl h.1,Pu h.2⟩
theorem Py {n:Nat}: ∀ {l:List Nat},ltB n l=true-> ∀j ∈ l,j<n
 | [],_,j,h=>by cases h
 |x::r,hb,j,h=>by
  simp only[ltB,aJ] at hb
  rcases bA.1 h with rfl |h
  ·simpa using hb.1
  ·exact Py hb.2 j h
theorem Nc: ∀ {k i:Nat}{l:List Nat},VR k i l=true-> ∀j,j<k->l[j]?=some (i+j)
 |0,_,_,_,j,h=>by omega
 |_+1,_,[],hb,j,h=>by simp[VR] at hb
 |k+1,i,x::r,hb,j,h=>by
  simp only[VR,aJ] at hb
  have hx:x=i:=by simpa using hb.1
  cases j with
  |zero=>simp[hx]
  |succ j=>
   have:=Nc hb.2 j (by omega);rw[List.getElem?_cons_succ,this];congr 1;omega
theorem Na {k n m:Nat}{ρ:List Nat}(h:VK k ρ n m=true):(∀i,i<k->ρ[i]?=some i)/\ρ.Nodup/\(∀j ∈ ρ,j<n)/\n≤1000000000/\m=ρ.length:=by
 simp only[VK,aJ] at h;refine⟨fun i hi=>by have:=Nc h.1 i hi;rwa [Nat.zero_add] at this,Pu h.2.1,Py h.2.2.1,Nat.le_of_ble_eq_true h.2.2.2.1,gJ h.2.2.2.2⟩
theorem AJ {k:Nat}(hE:E.th0.length=k)(ρ:List Nat){st st':AS}(hc:VK k ρ st.n st'.n=true)(hm:Ai ρ st.m st'.m)(ho:AY ρ st.o st'.o):Emb E N st st':=by
 obtain⟨h1,h2,h3,h4,h5⟩:=Na hc;exact emb ρ hm ho h5 h3 h4 (by rw[hE];exact h1) h2
theorem Emb.trans {s1 s2 s3:AS}(h:Emb E N s1 s2)(h':Emb E N s2 s3):Emb E N s1 s3:=fun th z a w hs=>let ⟨_,_,h1⟩:=h th z a w hs;h' _ _ _ _ h1
theorem AWP.emb {c:Code}{AQ:AExit->AS->Prop}{st st':AS}(h:Emb E N st st')(hc:AWP P E N c st' AQ):AWP P E N c st AQ:=fun Q hQ th z a w hs=>let ⟨th',z',h1⟩:=h th z a w hs;hc Q hQ th' z' a w h1
theorem Du (p:Nat->Prop): ∀n,p n-> ∃m,p m/\ ∀k,p k->m≤k:=by
 intro n
 induction n using Nat.strongRecOn with
 |_ n ih=>
  intro hn
  by_cases h: ∃m,m<n/\p m
  ·obtain⟨m,h1,h2⟩:=h;exact ih m h1 h2
  ·exact⟨n,hn,fun k hk=>Nat.le_of_not_lt fun hlt=>h ⟨k,hlt,hk⟩⟩
def Q1 {ι:Type}(E:Env)(N:Nat)(I:ι->AS)(ok:ι->Prop)(μ:ι->Nat)(i:ι)(AQ:AExit->AS->Prop):AExit->AS->Prop
 | .normal,st=> ∃i',ok i'/\μ i'<μ i/\Emb E N st (I i')
 |e,st=>AQ e st
theorem Dl {ι:Type}{I:ι->AS}{ok:ι->Prop}{μ:ι->Nat}{i:ι}{AQ:AExit->AS->Prop}(i':ι)(h1:ok i')(h2:μ i'<μ i)(h3:Emb E N st (I i')):Q1 E N I ok μ i AQ .normal st:=⟨i',h1,h2,h3⟩
theorem Gp {ι:Type}{I:ι->AS}{ok:ι->Prop}{μ:ι->Nat}{i:ι}{AQ:AExit->AS->Prop}{id:Nat}(i':ι)(h1:ok i')(h2:μ i'<μ i)(h3:Emb E N st (I i')):K5 id (Q1 E N I ok μ i AQ) .normal st:=⟨i',h1,h2,h3⟩
theorem AB {ι:Type}(I:ι->AS)(ok:ι->Prop)(μ:ι->Nat)(i0:ι){c:Code}{AQ:AExit->AS->Prop}(h0:ok i0)(he:Emb E N st (I i0))
  (round: ∀i,ok i->AWP P E N c (I i) (Q1 E N I ok μ i AQ)):AWP P E N (.loop c) st AQ:=by
 classical
 intro Q hQ th z a w hs
 let p:Act->World->Nat->Prop:=fun a w n=> ∃i,ok i/\μ i=n/\ ∃th z,Sim E N (I i) th z a w
 let m:Act->World->Nat:=fun a w=>if h: ∃n,p a w n then (Du (p a w) h.choose h.choose_spec).choose else 0
 have hm: ∀a w n,p a w n->p a w (m a w)/\m a w≤n:=by
  intro a w n hn;have h: ∃n,p a w n:=⟨n,hn⟩;have:=(Du (p a w) h.choose h.choose_spec).choose_spec;simp only[m,dif_pos h];exact⟨this.1,this.2 n hn⟩
 obtain⟨th1,z1,h1⟩:=he th z a w hs;refine wp_loop (fun a w=> ∃n,p a w n) m ⟨μ i0,i0,h0,rfl,th1,z1,h1⟩ (fun a w ⟨n,hn⟩=>?_);obtain⟨⟨i,hok,hμ,th2,z2,h2⟩,_⟩:=hm a w n hn;refine round i hok _ ⟨?_,?_,?_,?_⟩ th2 z2 a w h2
 ·rintro st' th' z' a' w' ⟨i',hok',hlt,hemb⟩ hs'
  obtain⟨th3,z3,h3⟩:=hemb th' z' a' w' hs';have hp:p a' w' (μ i'):=⟨i',hok',rfl,th3,z3,h3⟩;exact⟨⟨μ i',hp⟩,by have:=(hm a' w' _ hp).2;omega⟩
 ·intro id st' th' z' a' w' h1 h2;exact hQ.2.1 id st' th' z' a' w' h1 h2
 ·intro st' th' z' a' w' h1 h2;exact hQ.2.2.1 st' th' z' a' w' h1 h2
 ·intro x v st' th' z' w' h1 h2 h3 a' h4;exact hQ.2.2.2 x v st' th' z' w' h1 h2 h3 a' h4
theorem Ur {n:Int}(h1: -9223372036854775808≤n)(h2:n≤9223372036854775807):IntKind.i64.wrap n=n:=gC n ⟨h1,h2⟩
def AX:Nat->List AV->List (Nat×AV)
 |_,[]=>[]
 |i,x::r=>(i,x)::AX (i+1) r
theorem Re: ∀(c:List AV)(s i:Nat)(x:AV),lk (AX s c) i=some x->s≤i/\c[i - s]?=some x
 | [],s,i,x,h=>by simp[AX,lk] at h
 |y::r,s,i,x,h=>by
  simp only[AX,lk] at h;split at h
  ·rename_i e;subst e;cases h;simp
  ·rename_i e
   obtain⟨h1,h2⟩:=Re r (s+1) i x h;exact⟨by omega,by rw[show i - s=(i - (s+1))+1 by omega,List.getElem?_cons_succ];exact h2⟩
def rvA (P:Program)(st:AS):ResultVar->Option AV
 | .tmp t=>lk st.m t
 | .cell t T=>match AK P T,lk st.m t with
   |some y,some x=>match Hj st x with
    |some (c,off)=>KI y c off
    |none=>none
   |_,_=>none
def Lf (P:Program)(st:AS):List ResultVar->Option (List AV)
 | []=>some []
 |x::r=>match rvA P st x,Lf P st r with
  |some a,some l=>some (a::l)
  |_,_=>none
def A8:List AV->AV
 | [x]=>x
 |l=> .tup l
def EmbV (E:Env)(st:AS)(x:AV)(o:List (Nat×Nd))(n:Nat)(y:AV):Prop:= ∀th z w v,Mem E st.o st.n th z w->Rep w z th x v-> ∃th' z',Mem E o n th' z' w/\Rep w z' th' y v
theorem A1Q (ρ:List Nat){x y:AV}{o':List (Nat×Nd)}(hx:x=ren (AU ρ) y)(ho:AY ρ st.o o')(hr: ∀j ∈ ρ,j<st.n)(hb:st.n≤1000000000)(hpre: ∀i,i<E.th0.length->ρ[i]?=some i)(hnd:ρ.Nodup):EmbV E st x o' ρ.length y:=by
 intro th z w v h hv;exact⟨Dn th ρ,z,h.ren ρ hr hb ho hpre hnd,hv.unren (DY (fun j hj=>by rw[h.len];exact hr j hj) (by rw[h.len];exact hb)) y hx⟩
theorem BS {k:Nat}(hE:E.th0.length=k)(ρ:List Nat){x y:AV}{o':List (Nat×Nd)}{n:Nat}(hc:VK k ρ st.n n=true)(hx:x=ren (AU ρ) y)(ho:AY ρ st.o o'):EmbV E st x o' n y:=by
 obtain⟨h1,h2,h3,h4,rfl⟩:=Na hc;exact A1Q ρ hx ho h3 h4 (by rw[hE];exact h1) h2
theorem AE {x y:AV}(hE:E.th0.length=0)(hb:st.n≤1000000000)(hx:x=ren (AU []) y):EmbV E st x [] 0 y:=
 A1Q [] hx (fun p hp=>by cases hp) (fun j hj=>by cases hj) hb (fun i hi=>by omega) fG
def N4 (E:Env)(N:Nat)(st:AS)(x:AV)(o:List (Nat×Nd))(n:Nat)(y:AV):Prop:= ∀th z a w v,Sim E N st th z a w->Rep w z th x v-> ∃th' z',Mem E o n th' z' w/\Rep w z' th' y v
theorem EmbV.s {x y:AV}{o:List (Nat×Nd)}{n:Nat}(h:EmbV E st x o n y):N4 E N st x o n y:=fun th z _ w v hs hr=>h th z w v hs.mem hr
def DU (P:Program)(E:Env)(N:Nat)(rs:List ResultVar)(Q R:AV->List (Nat×Nd)->Nat->Prop):AExit->AS->Prop
 | .normal,st | .ret,st=>match Lf P st rs with
   |some l=> ∃y o n,Q y o n/\N4 E N st (A8 l) o n y
   |none=>False
 | .pan x,st=> ∃y o n,R y o n/\EmbV E st x o n y
 |_,_=>False
def Con (P:Program)(G:List (Nat×List Value))(f:Nat)(xs:List AV)(o:List (Nat×Nd))(n:Nat)(Q R:AV->List (Nat×Nd)->Nat->Prop):Prop:=
 NC P f=true/\ ∀(w:World)(th:List NLoc)(z:AO)(own:Nat->Prop)(vs:List Value),(∀b,(∃i nd L,lk o i=some nd/\th[i]?=some L/\L.ph=false/\L.b=b)->own b)->Mem ⟨w,own,z,G,th,[]⟩ o n th z w->Reps w z th xs vs->
  Calls P f vs.toArray w (fun e w'=> ∃v y o' n' th' z',((e= .returned v/\Q y o' n')\/(e= .panicked [{v:=v,recovered:=false}]/\R y o' n'))/\Mem ⟨w,own,z,G,th,[]⟩ o' n' th' z' w'/\Rep w' z' th' y v)
def Zo (tmps:Array Value):ResultVar->Sem Value
 | .tmp t=>pure (tmps.getD t undef)
 | .cell a t=>do loadVar t (<-asAddr (tmps.getD a undef))
theorem Tf (h:Sim E N st th z a w){x:ResultVar}{y:AV}(hx:rvA P st x=some y): ∃v,Rep w z th y v/\(Zo a.tmps x).run P w= .ok v w:=by
 cases x with
 |tmp t=>
  obtain⟨v,hv,hr⟩:=h.slots t y hx;exact⟨v,hr,by simp[Zo,dE,hv]⟩
 |cell t T=>
  simp only[rvA] at hx;split at hx
  ·rename_i ty x hT hl
   split at hx
   ·rename_i c off hc
    obtain⟨u,hu,hr⟩:=h.slots t _ hl;obtain⟨b,o,rfl,hlt,hcell⟩:=I7 h hr hc;obtain⟨v,hrv,hrun⟩:=KH (P:=P) hT hx (fun _=> .inr trivial) hcell;refine⟨v,hrv,?_⟩;simp only[Zo,dE,hu,dH,asAddr,aQ,bT,aL];exact hrun w (fun _=>rfl)
   ·cases hx
  ·cases hx
theorem Ld (h:Sim E N st th z a w): ∀ {rs:List ResultVar}{l:List AV},Lf P st rs=some l-> ∃vs,Reps w z th l vs/\(rs.mapM (Zo a.tmps)).run P w= .ok vs w
 | [],l,he=>by simp only[Lf,aM] at he;subst he;exact⟨[],.nil,by simp⟩
 |x::r,l,he=>by
  simp only[Lf] at he;split at he
  ·rename_i y l' h1 h2;cases he
   obtain⟨v,hv,hrun⟩:=Tf (P:=P) h h1;obtain⟨vs,hvs,hrun'⟩:=Ld h h2;refine⟨v::vs,.cons hv hvs,?_⟩;rw[List.mapM_cons,aQ,hrun,aL,aQ,hrun',aL];rfl
  ·cases he
theorem FU (h:Sim E N st th z a w){fn:Func}{l:List AV}(hl:Lf P st fn.results.toList=some l): ∃v,Rep w z th (A8 l) v/\(results fn a.tmps).run P w= .ok v w:=by
 obtain⟨vs,hvs,hrun⟩:=Ld (P:=P) h hl
 have hm:(fn.results.mapM (Zo a.tmps)).run P w= .ok vs.toArray w:=by
  rw[show fn.results=fn.results.toList.toArray by simp,List.mapM_toArray,Sem.run_map];simp only[hrun,aL]
 have e:results fn a.tmps=(do let vs <-fn.results.mapM (Zo a.tmps);pure (if h:vs.size=1 then vs[0] else .tuple vs)):=rfl;refine⟨if h:vs.toArray.size=1 then vs.toArray[0] else .tuple vs.toArray,?_,?_⟩
 ·unfold A8
  split
  ·rename_i x
   obtain⟨v,r,rfl,hv,hr⟩:=hvs.head;obtain rfl:=hr.of_nil;simpa using hv
  ·rename_i hne
   have hlen:vs.toArray.size≠1:=by
    intro hh
    have:l.length=1:=by rw[<-hvs.1];simpa using hh
    obtain⟨x,rfl⟩:=dT.1 this;exact hne x rfl
   rw[dif_neg hlen];exact .tup th l vs hvs.1 hvs.2
 ·rw[e,aQ,hm];rfl
theorem S4 {G:List (Nat×List Value)}{f:Nat}{fn:Func}{c:Code}{xs:List AV}{o:List (Nat×Nd)}{n:Nat}{Q R:AV->List (Nat×Nd)->Nat->Prop}(hf:P.funcs[f]?=some fn)(hb:fn.body=some c)(hok:NC P f=true)(hN:xs.length≤fn.ntmps)
  (h: ∀E:Env,E.G=G->E.th0.length=n->AWP P E fn.ntmps c ⟨AX 0 xs,o,n⟩ (DU P E fn.ntmps fn.results.toList Q R)):Con P G f xs o n Q R:=by
 refine⟨hok,fun w th z own vs hown hmem hr=>calls_of_wp hf hb ?_⟩
 have hlen:vs.toArray.size=xs.length:=by simpa using hr.1
 have hs:Sim ⟨w,own,z,G,th,[]⟩ fn.ntmps ⟨AX 0 xs,o,n⟩ th z {tmps:=vs.toArray++Array.replicate (fn.ntmps - vs.toArray.size) undef,defers:=[]} w:=by
  refine⟨hmem,by simp;have:=hr.1;omega,rfl,fun i x hi=>?_⟩;obtain⟨_,h2⟩:=Re xs 0 i x hi;rw[Nat.sub_zero] at h2;obtain⟨y,hy,hrep⟩:=hr.get h2;refine⟨y,?_,hrep⟩;have:i<vs.length:=(aA.1 hy).1;simp only[Array.getElem?_append,gD,this,if_true];simpa using hy
 refine h ⟨w,own,z,G,th,[]⟩ rfl hmem.len (bodyPost P fn _) ⟨?_,?_,?_,?_⟩ th z _ w hs
 ·intro st th z a w h1 h2
  simp only[DU] at h1;split at h1
  ·rename_i l hl
   obtain⟨y,o',n',hq,he⟩:=h1;obtain⟨v,hv,hrun⟩:=FU (P:=P) h2 hl;obtain⟨th',z',hm,hrep⟩:=he th z a w v h2 hv;exact⟨h2.dfs,v,hrun,v,y,o',n',th',z',.inl ⟨rfl,hq⟩,hm,hrep⟩
  ·exact h1.elim
 ·intro id st th z a w h1 h2;exact h1.elim
 ·intro st th z a w h1 h2
  simp only[DU] at h1;split at h1
  ·rename_i l hl
   obtain⟨y,o',n',hq,he⟩:=h1;obtain⟨v,hv,hrun⟩:=FU (P:=P) h2 hl;obtain⟨th',z',hm,hrep⟩:=he th z a w v h2 hv;exact⟨h2.dfs,v,hrun,v,y,o',n',th',z',.inl ⟨rfl,hq⟩,hm,hrep⟩
  ·exact h1.elim
 ·intro x v st th z w h1 h2 h3 a h4
  obtain⟨y,o',n',hq,he⟩:=h1;obtain⟨th',z',hm,hrep⟩:=he th z w v h2 h3;exact⟨h4,v,y,o',n',th',z',.inr ⟨rfl,hq⟩,hm,hrep⟩
end
end Go.AM
namespace Go.AM
open Go
inductive PT:AV->Prop
 |r (v:Value):PT (.r v)
 |ro (k:Nat) (els:List (List AV)) (h: ∀e ∈ els,∀x ∈ e,PT x):PT (.ro true k els)
 |re (c:List AV) (off:Nat) (h: ∀x ∈ c,PT x):PT (.re true c off)
 |s (n lo len:Nat):PT (.s n lo len)
 |p (n i off:Nat):PT (.p n i off)
 |agg (c:List AV) (h: ∀x ∈ c,PT x):PT (.agg c)
 |tup (c:List AV) (h: ∀x ∈ c,PT x):PT (.tup c)
 |ifc (t:Nat) (x:AV) (h:PT x):PT (.ifc t x)
 |fn (f:Nat) (c:List AV) (h: ∀x ∈ c,PT x):PT (.fn f c)
 |q (n:Nat):PT (.q n)
 |u (T k:Nat) (els:List (List AV)) (h: ∀e ∈ els,∀x ∈ e,PT x):PT (.u T k els)
 |any:PT .any
def FZ:Nd->Prop
 | .box _ c=> ∀x ∈ c,PT x
 | .lst _ _ els=> ∀e ∈ els,∀x ∈ e,PT x
 | .ul _ _ els op=>(∀e ∈ els,∀x ∈ e,PT x)/\ ∀p ∈ op,PT p.2.2
 | .mp _=>True
mutual
def ZL (t:Bool):AV->AV
 | .u _ k els=> .ro t k (F9 t els)
 | .r v=> .r v
 | .ro t k els=> .ro t k els
 | .re t c off=> .re t c off
 | .s n lo len=> .s n lo len
 | .p n i off=> .p n i off
 | .agg c=> .agg c
 | .tup c=> .tup c
 | .fn f c=> .fn f c
 | .ifc t x=> .ifc t x
 | .q n=> .q n
 | .any=> .any
def F9 (t:Bool):List (List AV)->List (List AV)
 | []=>[]
 |e::r=>JJ t e::F9 t r
def JJ (t:Bool):List AV->List AV
 | []=>[]
 |x::r=>ZL t x::JJ t r
end
theorem JI (t:Bool): ∀(c:List AV)(i:Nat),(JJ t c)[i]?=(c[i]?).map (ZL t)
 | [],i=>by simp[JJ]
 |x::r,0=>by simp[JJ]
 |x::r,i+1=>by simp[JJ,JI t r i]
theorem JG (t:Bool): ∀(c:List (List AV))(i:Nat),(F9 t c)[i]?=(c[i]?).map (JJ t)
 | [],i=>by simp[F9]
 |x::r,0=>by simp[F9]
 |x::r,i+1=>by simp[F9,JG t r i]
theorem JH (t:Bool): ∀c:List AV,(JJ t c).length=c.length
 | []=>by simp[JJ]
 |x::r=>by simp[JJ,JH t r]
theorem HC (t:Bool): ∀c:List (List AV),(F9 t c).length=c.length
 | []=>by simp[F9]
 |x::r=>by simp[F9,HC t r]
theorem Mf {α:Type}(t:Bool)(f g:α->List AV)(h: ∀a,JJ t (f a)=g a): ∀l:List α,F9 t (l.map f)=l.map g
 | []=>by simp[F9]
 |x::r=>by simp[F9,h,Mf t f g h r]
mutual
def FE (st:AS):AV->Option AV
 | .s n lo len=>match lk st.o n with
   |some (.lst _ k els)=>if lo+len≤els.length then some (.ro false k ((els.drop lo).take len)) else none
   |some (.ul _ k els [])=>if lo+len≤els.length then some (.ro false k ((F9 false els).drop lo |>.take len)) else none
   |_=>none
 | .p n i off=>match lk st.o n with
   |some (.box _ c)=>if i=0 then (Kq c).map fun c'=> .re false c' off else none
   |_=>none
 | .r v=>some (.r v)
 | .ro t k els=>some (.ro t k els)
 | .re t c off=>some (.re t c off)
 | .agg c=>(C0 st c).map .agg
 | .tup c=>(C0 st c).map .tup
 | .fn f c=>(C0 st c).map (.fn f)
 | .ifc t x=>(FE st x).map (.ifc t)
 | .q _=>none
 | .u _ _ _=>none
 | .any=>some .any
def C0 (st:AS):List AV->Option (List AV)
 | []=>some []
 |x::r=>match FE st x,C0 st r with
  |some a,some l=>some (a::l)
  |_,_=>none
def Kq:List AV->Option (List AV)
 | []=>some []
 | .r v::r=>(Kq r).map (.r v:: ·)
 | .ro t k els::r=>(Kq r).map (.ro t k els:: ·)
 | .re t c off::r=>(Kq r).map (.re t c off:: ·)
 |_::_=>none
end
section
variable {P:Program} {E:Env} {N:Nat} {st:AS} {th:List NLoc} {z:AO} {a:Act} {w:World}
def zc (w:World)(z:AO):AO:=fun t b=>if t then z true b else b<w.heap.size
theorem JT (h: ∀t b,z t b->b<w.heap.size): ∀t b,z t b->zc w z t b:=by
 intro t b hb;cases t
 ·exact h _ b hb
 ·exact hb
theorem Rep.ground {x:AV}{v:Value}(hr:Rep w z th x v)(hg:(∃u,x= .r u)\/(∃t k els,x= .ro t k els)\/ ∃t c off,x= .re t c off)(th':List NLoc):Rep w z th' x v:=by
 cases hr with
 |r _ v=>exact .r _ _
 |nil _ t k a c=>exact .nil _ _ _ _ _
 |ro _ t k els b o c ys hz hc hk hy h1 hx=>exact .ro _ _ _ _ b o c ys hz hc hk hy h1 hx
 |re _ t c b o off ys hz hy hx=>exact .re _ _ _ b o _ ys hz hy hx
 |_=>rcases hg with ⟨_,h⟩ |⟨_,_,_,h⟩ |⟨_,_,_,h⟩<;>cases h
theorem K4: ∀ {c c':List AV},Kq c=some c'->c'=c/\ ∀x ∈ c,(∃u,x= .r u)\/(∃t k els,x= .ro t k els)\/ ∃t c off,x= .re t c off
 | [],c',h=>by simp only[Kq,aM] at h;subst h;simp
 |x::r,c',h=>by
  cases x<;>simp only[Kq,aF] at h<;>try cases h
  all_goals
   rename_i hh;obtain⟨h1,rfl⟩:=hh;obtain⟨rfl,h2⟩:=K4 h1;refine⟨rfl,fun x hx=>?_⟩
   rcases bA.1 hx with rfl |hx
   ·simp
   ·exact h2 x hx
theorem UC.seen {f:Nat->Prop}{x:AV}{v:Value}(h:UC w z f x v){z':AO}{t:Bool}(hs: ∀t b,z t b->z' t b):(∀b,f b->z' t b)->Rep w z' [] (ZL t x) v:=by
 induction h with
 |r f x v h=>
  intro _
  have:ZL t x=x:=by cases h<;>rfl
  rw[this];exact h.on' ⟨hs,fun _ _ _=>rfl⟩
 |n f T k=>intro _;exact .nil _ _ _ _ _
 |u f T k els b o c cells fr F ys hb hf hl hs' hfb hF hd hk hy h1 hx ih=>
  intro hz
  have:=Rep.ro_mk (w:=w) (z:=z') (th:=[]) (t:=t) (els:=F9 t els) (b:=b) (o:=o) (k:=k) (c:=c) (hz b hfb) (by rw[HC];exact hl) (fun i e he=>by
   rw[JG,aF] at he;obtain⟨e0,he0,rfl⟩:=he;refine⟨by rw[JH];exact hk i e0 he0,fun j x hj=>?_⟩;rw[JI,aF] at hj;obtain⟨x0,hx0,rfl⟩:=hj
   exact⟨ys i j,by rw[Bj hb];exact hy i e0 j x0 he0 hx0,ih i e0 j x0 he0 hx0 (fun b' hb'=>hz b' (hF _ _ _ hb').1),h1 i e0 j x0 he0 hx0⟩)
  rw[HC] at this;exact this
theorem Rep.seenU {z':AO}{t:Bool}{U:Nat->Prop}{L:NLoc}{T k:Nat}{els:List (List AV)}{i lo len:Nat}{v:Value}(hr:Rep w z th (.s i lo len) v)(hL:th[i]?=some L)(hn:NdAt w z th L (.ul T k els []))(hU:UlAt w z th U L els [])(hle:lo+len≤els.length)
  (hz:L.ph=false->z' t L.b) (hz2: ∀b,U b->z' t b) (hs: ∀t b,z t b->z' t b) (th':List NLoc):Rep w z' th' (.ro t k ((F9 t els).drop lo |>.take len)) v:=by
 obtain⟨L',hL',hcase⟩:=hr.s_inv;rw[hL] at hL';cases hL'
 have hlen:((F9 t els).drop lo |>.take len).length=len:=by simp[HC];omega
 rcases hcase with ⟨_,rfl,rfl⟩ |⟨hp,c,o,rfl,hl,hcap,ho⟩
 ·simp only[List.take_zero];exact .nil _ _ _ _ _
 rcases hn with ⟨hp',_⟩ |⟨_,cells,fr,h2,h3,h4,h5,h6,h7⟩
 ·rw[hp] at hp';cases hp'
 by_cases hz0:len=0
 ·subst hz0;simp only[List.take_zero];exact .nil _ _ _ _ _
 ·have ho:=ho (by omega)
  subst ho;obtain⟨F,f1,_,f3⟩:=hU
  have key:Rep w z' th' (.ro t k ((F9 t els).drop lo |>.take len)) (.slice (some ⟨L.b,L.o+lo * L.k,none⟩) ((F9 t els).drop lo |>.take len).length c):=by
   refine Rep.ro_mk (hz hp) (by rw[hlen];exact hl) (fun i e he=>?_);rw[dV] at he;split at he
   ·rw[bI,JG,aF] at he
    obtain⟨e0,he0,rfl⟩:=he;refine⟨by rw[JH];exact(h7 _ _ he0).trans h4,fun j x hj=>?_⟩;rw[JI,aF] at hj;obtain⟨x0,hx0,rfl⟩:=hj;obtain⟨y,hy,ho1,hcu⟩:=f3 _ _ he0 j x0 hx0;refine⟨y,?_,UC.seen (show UC w z (F (lo+i) j) x0 y from hcu) hs (fun b hb=>hz2 b (f1 _ _ _ hb)),ho1⟩;rw[<-h4,show L.o+lo * L.k+i * L.k+j=L.o+(lo+i) * L.k+j by rw[bJ];omega];exact hy
   ·cases he
  rw[hlen] at key;exact key
mutual
theorem OA (h:Sim E N st th z a w): ∀(x:AV){y:AV}{v:Value},FE st x=some y->Rep w z th x v->Rep w (zc w z) [] y v
 | .s n lo len,y,v,hb,hr=>by
   simp only[FE] at hb;split at hb
   ·rename_i T k els hn
    split at hb
    ·rename_i hle;cases hb
     obtain⟨L,h1,h2,h3⟩:=h.mem.nds n _ hn;exact hr.seen h1 h2 hle (fun hp=>(h3 hp).1) (JT h.mem.zlt) []
    ·cases hb
   ·rename_i T k els hn
    split at hb
    ·rename_i hle;cases hb
     obtain⟨L,h1,h2,h3⟩:=h.mem.nds n _ hn;obtain⟨U,hU⟩:=h.mem.uls;exact hr.seenU h1 h2 (hU.at_ _ _ _ _ _ _ hn h1) hle (fun hp=>(h3 hp).1) (fun b hb=>hU.lt n b hb) (JT h.mem.zlt) []
    ·cases hb
   ·cases hb
 | .p n i off,y,v,hb,hr=>by
   simp only[FE] at hb;split at hb
   ·rename_i T c hn
    split at hb
    ·rename_i hi;subst hi
     simp only[aF] at hb;obtain⟨c',hc,rfl⟩:=hb;obtain⟨rfl,hg⟩:=K4 hc;obtain⟨L,h1,⟨hp,cells,fr,h2,h3,h4,h5⟩,h6⟩:=h.mem.nds n _ hn;obtain⟨h6,h7,h8⟩:=h6 hp;obtain⟨L',hL',rfl⟩:=hr.p_inv;rw[h1] at hL';cases hL'
     have:=Rep.re_mk (w:=w) (z:=zc w z) (th:=[]) (t:=false) (c:=c') (b:=L.b) (o:=0) (off:=off) h6 (fun j x hj=>by
      obtain⟨y,hy,hr⟩:=h5.get hj;refine⟨y,?_,(hr.ground (hg x (aB hj)) []).on' ⟨JT h.mem.zlt,fun _ _ _=>rfl⟩⟩
      rw[Bj h2];simpa using hy)
     simpa[h4] using this
    ·cases hb
   ·cases hb
 | .r u,y,v,hb,hr=>by simp only[FE,aM] at hb;subst hb;exact(hr.ground (.inl ⟨_,rfl⟩) []).on' ⟨JT h.mem.zlt,fun _ _ _=>rfl⟩
 | .ro t k els,y,v,hb,hr=>by simp only[FE,aM] at hb;subst hb;exact(hr.ground (.inr (.inl ⟨_,_,_,rfl⟩)) []).on' ⟨JT h.mem.zlt,fun _ _ _=>rfl⟩
 | .re t c off,y,v,hb,hr=>by simp only[FE,aM] at hb;subst hb;exact(hr.ground (.inr (.inr ⟨_,_,_,rfl⟩)) []).on' ⟨JT h.mem.zlt,fun _ _ _=>rfl⟩
 | .agg c,y,v,hb,hr=>by
   simp only[FE,aF] at hb;obtain⟨c',hc,rfl⟩:=hb;obtain⟨ys,rfl,hys⟩:=hr.agg_inv;have:=FD h c hc hys;exact .agg _ _ _ this.1 this.2
 | .tup c,y,v,hb,hr=>by
   simp only[FE,aF] at hb;obtain⟨c',hc,rfl⟩:=hb;obtain⟨ys,rfl,hys⟩:=hr.tup_inv;have:=FD h c hc hys;exact .tup _ _ _ this.1 this.2
 | .fn f c,y,v,hb,hr=>by
   simp only[FE,aF] at hb;obtain⟨c',hc,rfl⟩:=hb
   cases hr with
   |fn _ _ _ ys hl hx=>
    have:=FD h c hc ⟨hl,hx⟩;exact .fn _ _ _ _ this.1 this.2
 | .ifc t x,y,v,hb,hr=>by
   simp only[FE,aF] at hb;obtain⟨c',hc,rfl⟩:=hb
   cases hr with
   |ifc _ _ _ u hu=>exact .ifc _ _ _ _ (OA h x hc hu)
 | .q n,y,v,hb,hr=>by simp[FE] at hb
 | .u T k els,y,v,hb,hr=>by simp[FE] at hb
 | .any,y,v,hb,hr=>by simp only[FE,aM] at hb;subst hb;exact .any _ _
theorem FD (h:Sim E N st th z a w): ∀(c:List AV){d:List AV}{vs:List Value},C0 st c=some d->Reps w z th c vs->Reps w (zc w z) [] d vs
 | [],d,vs,hb,hr=>by
   simp only[C0,aM] at hb;subst hb;obtain rfl:=hr.of_nil;exact .nil
 |x::r,d,vs,hb,hr=>by
  simp only[C0] at hb;split at hb
  ·rename_i y l h1 h2;cases hb
   obtain⟨v,vs',rfl,hv,hvs⟩:=hr.head;exact .cons (OA h x h1 hv) (FD h r h2 hvs)
  ·cases hb
end
theorem Rep.back {z' z2:AO}{x:AV}{v:Value}(hr:Rep w z' th x v)(hz: ∀b,z' true b->z2 true b)(hx:PT x):Rep w z2 th x v:=by
 induction hr with
 |r th v=>exact .r _ _
 |nil th t k a c=>exact .nil _ _ _ _ _
 |ro th t k els b o c ys hzb hc hk hy h1 hx' ih=>
  cases hx with
  |ro _ _ h=>exact .ro _ _ _ _ b o c ys (hz _ hzb) hc hk hy h1 (fun i e j x he hj=>ih i e j x he hj (h e (aB he) x (aB hj)))
 |re th t c b o off ys hzb hy hx' ih=>
  cases hx with
  |re _ _ h=>exact .re _ _ _ b o _ ys (hz _ hzb) hy (fun j x hj=>ih j x hj (h x (aB hj)))
 |s th n lo len c x L hL hp hl hc ho=>exact .s _ _ _ _ c x L hL hp hl hc ho
 |sn th n lo L hL hp=>exact .sn _ _ _ L hL hp
 |p th n i off L hL=>exact .p _ _ _ _ L hL
 |agg th c ys hl hx' ih=>
  cases hx with
  |agg _ h=>exact .agg _ _ ys hl (fun i x y h1 h2=>ih i x y h1 h2 (h x (aB h1)))
 |tup th c ys hl hx' ih=>
  cases hx with
  |tup _ h=>exact .tup _ _ ys hl (fun i x y h1 h2=>ih i x y h1 h2 (h x (aB h1)))
 |fn th f c ys hl hx' ih=>
  cases hx with
  |fn _ _ h=>exact .fn _ _ _ ys hl (fun i x y h1 h2=>ih i x y h1 h2 (h x (aB h1)))
 |ifc th t x v hx' ih=>
  cases hx with
  |ifc _ _ h=>exact .ifc _ _ _ _ (ih h)
 |q th n L hL=>exact .q _ _ L hL
 |any th v=>exact .any _ _
theorem UC.back {f:Nat->Prop}{z' z2:AO}{x:AV}{v:Value}(h:UC w z' f x v)(hz: ∀b,z' true b->z2 true b)(hx:PT x):UC w z2 f x v:=by
 induction h with
 |r f x v h=>exact .r _ _ _ (h.back hz hx)
 |n f T k=>exact .n _ _ _
 |u f T k els b o c cells fr F ys hb hf hl hs hfb hF hd hk hy h1 hx' ih=>
  cases hx with
  |u _ _ _ h=>exact .u f T k els b o c cells fr F ys hb hf hl hs hfb hF hd hk hy h1 (fun i e j x h1 h2=>ih i e j x h1 h2 (h e (aB h1) x (aB h2)))
theorem Sp: ∀ {op:List (Nat×Nat×AV)}{i j:Nat}{x:AV},F0 op i j=some x->(i,j,x) ∈ op
 | [],i,j,x,h=>by simp[F0] at h
 |(p,q,y)::r,i,j,x,h=>by
  simp only[F0] at h;split at h
  ·rename_i e;obtain⟨rfl,rfl⟩:=e;cases h;simp
  ·exact gM _ (Sp h)
theorem UlAt.back {z' z2:AO}{U:Nat->Prop}{L:NLoc}{T k:Nat}{els:List (List AV)}{op:List (Nat×Nat×AV)}(h:UlAt w z' th U L els op)(hz: ∀b,z' true b->z2 true b)(hx:FZ (.ul T k els op)):UlAt w z2 th U L els op:=by
 obtain⟨F,h1,h2,h3⟩:=h;refine⟨F,h1,h2,fun i e he j x hj=>?_⟩;obtain⟨y,hy,ho,hc⟩:=h3 i e he j x hj;refine⟨y,hy,ho,?_⟩;unfold CellU at hc ⊢
 cases hl:F0 op i j with
 |some x'=>rw[hl] at hc;exact Rep.back hc hz (hx.2 _ (Sp hl))
 |none=>rw[hl] at hc;exact UC.back hc hz (hx.1 e (aB he) x (aB hj))
theorem NdAt.back {z' z2:AO}{L:NLoc}{nd:Nd}(hn:NdAt w z' th L nd)(hz: ∀b,z' true b->z2 true b)(hx:FZ nd):NdAt w z2 th L nd:=by
 cases nd with
 |box T c=>
  obtain⟨hp,cells,fr,h1,h2,h3,h4⟩:=hn;exact⟨hp,cells,fr,h1,h2,h3,h4.1,fun i x y hi hy=>(h4.2 i x y hi hy).back hz (hx x (aB hi))⟩
 |lst T k els=>
  rcases hn with hn |⟨hp,cells,fr,h1,h2,h3,h4,h5,h6⟩
  ·exact .inl hn
  exact .inr ⟨hp,cells,fr,h1,h2,h3,h4,h5,fun i e he=>⟨(h6 i e he).1,fun j x hj=>let ⟨y,hy,hr,ho⟩:=(h6 i e he).2 j x hj;⟨y,hy,hr.back hz (hx e (aB he) x (aB hj)),ho⟩⟩⟩
 |ul T k els op=>exact hn
 |mp l=>exact hn
def KG (d:Nat)(o:List (Nat×Nd)):List (Nat×Nd):=o.map fun p=>(p.1+d,AA (· +d) p.2)
theorem Dq {α:Type}(o o':List (Nat×α))(i:Nat):lk (o++o') i=match lk o i with |some x=>some x |none=>lk o' i:=by
 induction o with
 |nil=>simp[lk]
 |cons p r ih=>
  obtain⟨j,x⟩:=p;simp only[List.cons_append,lk];split
  ·rfl
  ·exact ih
theorem Z4 (d:Nat)(o:List (Nat×Nd))(i:Nat):lk (KG d o) i=if d≤i then (lk o (i - d)).map (AA (· +d)) else none:=by
 induction o with
 |nil=>simp[KG,lk]
 |cons p r ih=>
  obtain⟨j,x⟩:=p;simp only[KG,List.map_cons,lk] at ih ⊢
  by_cases h:j+d=i
  ·subst h;simp
  ·rw[if_neg h,ih]
   by_cases h2:d≤i
   ·rw[if_pos h2,if_pos h2,if_neg (by omega)]
   ·rw[if_neg h2,if_neg h2]
def Wh (z z':AO):AO:=fun t b=>if t then z' true b else z false b
theorem Oz {f:Nat}{xs ys:List AV}{Q R:AV->List (Nat×Nd)->Nat->Prop}{k kp:AV->AS->Prop}(hc:Con P E.G f ys [] 0 Q R)(hb:C0 st xs=some ys)
  (hk: ∀y o n,Q y o n->PT y/\(∀p ∈ o,FZ p.2)/\k (ren (· +st.n) y) {st with o:=KG st.n o++st.o,n:=st.n+n})
  (hkp: ∀y o n,R y o n->PT y/\(∀p ∈ o,FZ p.2)/\kp (ren (· +st.n) y) {st with o:=KG st.n o++st.o,n:=st.n+n}):CallG P E N f xs st k kp:=by
 refine⟨hc.1,fun th z a w vs hs hr=>?_⟩
 have hz: ∀t b,zc w z t b->b<w.heap.size:=by
  intro t b h;cases t
  ·exact h
  ·exact hs.mem.zlt _ _ h
 have hmem0:Mem ⟨w,fun _=>False,zc w z,E.G,[],[]⟩ [] 0 [] (zc w z) w:=by
  refine⟨rfl,fun i nd hi=>by simp[lk] at hi,fun i j x y L M hi=>by simp[lk] at hi,hz,Nat.le_refl _,fun _ _ _=>rfl,fun _ _ h=>h,fun b h=> .inl h,fun b h=>h,fun g cs hg=>?_,fun i L hi=>by simp at hi,Sys.refl w,⟨fun _ _=>False,fun i T k els op L hi=>by simp[lk] at hi,fun _ _ h=>h.elim,fun _ _ h=>h.elim,fun _ _ h=>h.elim,fun _ _ _ h=>h.elim,fun i nd L j hi=>by simp[lk] at hi⟩⟩;obtain⟨h1,h2⟩:=hs.mem.globs g cs hg;exact⟨h1,h2⟩
 refine(hc.2 w [] (zc w z) (fun _=>False) vs (fun b=>by simp[lk]) hmem0 (FD hs xs hb hr)).mono ?_;rintro e w' ⟨v,y,o',n',th',z',hh,hm,hv⟩;have ext:Ext w w':=⟨hm.grow,fun b hb=>hm.frame b hb (fun h=>h),hm.sys⟩
 have main:PT y->(∀p ∈ o',FZ p.2)->Sim E N {st with o:=KG st.n o'++st.o,n:=st.n+n'} (th++th') (Wh z z') a w'/\Rep w' (Wh z z') (th++th') (ren (· +st.n) y) v:=by
  intro hy ho
  have hsub: ∀t b,z t b->Wh z z' t b:=by
   intro t b hb;cases t
   ·exact hb
   ·exact hm.zin true b hb
  have le:Le w z w' (Wh z z'):=ext.le hsub hs.mem.zlt
  have hfw: ∀(i:Nat) L,th'[i]?=some L->(th++th')[i+st.n]?=some L:=by
   intro i L hi;rw[bQ (by rw[hs.mem.len];omega),hs.mem.len,dF];exact hi
  have hz1: ∀b,z' true b->Wh z z' true b:=fun b hb=>hb
  have fresh: ∀b,z' true b->z true b\/w.heap.size≤b:=by
   intro b hb
   rcases hm.zout b hb with h1 |h1 |h1
   ·exact .inl h1
   ·exact h1.elim
   ·exact .inr h1
  have nodeold: ∀i nd,lk st.o i=some nd-> ∃L,th[i]?=some L/\(L.ph=false->L.b<w.heap.size/\(∀t,¬z t L.b))/\i<st.n:=by
   intro i nd hi;obtain⟨L,h1,h2,h3⟩:=hs.mem.nds i nd hi;exact⟨L,h1,fun hp=>⟨(h3 hp).1,(h3 hp).2.1⟩,by rw[<-hs.mem.len];exact(aA.1 h1).1⟩
  have nodenew: ∀i nd,lk o' i=some nd-> ∃L,th'[i]?=some L/\(L.ph=false->w.heap.size≤L.b):=by
   intro i nd hi;obtain⟨L,h1,h2,h3⟩:=hm.nds i nd hi;refine⟨L,h1,fun hp=>?_⟩
   rcases(h3 hp).2.2 with h5 |h5
   ·exact h5.elim
   ·exact h5
  have look: ∀i nd,lk (KG st.n o'++st.o) i=some nd->(st.n≤i/\ ∃x,lk o' (i - st.n)=some x/\nd=AA (· +st.n) x)\/(i<st.n/\lk st.o i=some nd):=by
   intro i nd hi;rw[Dq,Z4] at hi
   by_cases h:st.n≤i
   ·rw[if_pos h] at hi
    cases hq:lk o' (i - st.n) with
    |some x=>rw[hq] at hi;simp at hi;exact .inl ⟨h,x,rfl,hi.symm⟩
    |none=>
     rw[hq] at hi;simp at hi;obtain⟨_,_,_,h5⟩:=nodeold i nd hi;omega
   ·rw[if_neg h] at hi
    simp at hi;exact .inr ⟨by omega,hi⟩
  have hnewL: ∀i L,st.n≤i->(th++th')[i]?=some L->th'[i - st.n]?=some L:=by
   intro i L h hi;rw[bQ (by rw[hs.mem.len];exact h),hs.mem.len] at hi;exact hi
  have holdL: ∀i L,i<st.n->(th++th')[i]?=some L->th[i]?=some L:=by
   intro i L h hi;rw[bF (by rw[hs.mem.len];exact h)] at hi;exact hi
  refine⟨⟨⟨?_,?_,?_,?_,?_,?_,?_,?_,?_,?_,?_,?_,?_⟩,hs.size,hs.dfs,fun i x hi=>?_⟩,(hv.back hz1 hy).ren hfw⟩
  ·simp[hs.mem.len,hm.len]
  ·intro i nd hi
   rcases look i nd hi with ⟨h,x,hx,rfl⟩ |⟨h,hx⟩
   ·obtain⟨L,h1,h2,h3⟩:=hm.nds _ x hx
    refine⟨L,by have:=hfw _ _ h1;rwa [Nat.sub_add_cancel h] at this,(h2.back hz1 (ho _ (CD hx))).ren hfw,fun hp=>?_⟩;obtain⟨h3,h4,h5⟩:=h3 hp;refine⟨h3,fun t ht=>?_,?_⟩
    ·cases t
     ·have:=hs.mem.zlt _ _ ht
      rcases h5 with h5 |h5
      ·exact h5
      ·exact absurd this (Nat.not_lt.2 h5)
     ·exact h4 true ht
    ·rcases h5 with h5 |h5
     ·exact h5.elim
     ·exact .inr (bL hs.mem.grow h5)
   ·obtain⟨L,h1,h2,h3⟩:=hs.mem.nds i nd hx
    refine⟨L,Ak _ h1,h2.on le (fun hp=>ext.same _ (h3 hp).1) th',fun hp=>?_⟩;obtain⟨h3,h4,h5⟩:=h3 hp;refine⟨aY h3 ext.size,fun t ht=>?_,h5⟩;cases t
    ·exact h4 false ht
    ·rcases fresh _ ht with h6 |h6
     ·exact h4 true h6
     ·omega
  ·intro i j x y L M hi hj hL hM e1 e2 hb
   rcases look i x hi with ⟨h1,x1,hx1,rfl⟩ |⟨h1,hx1⟩<;>rcases look j y hj with ⟨h2,y1,hy1,rfl⟩ |⟨h2,hy1⟩
   ·have:=hm.inj _ _ x1 y1 L M hx1 hy1 (hnewL i L h1 hL) (hnewL j M h2 hM) e1 e2 hb
    omega
   ·obtain⟨L1,q1,q2⟩:=nodenew _ _ hx1
    rw[hnewL i L h1 hL] at q1;cases q1;obtain⟨L2,q3,q4,_⟩:=nodeold _ _ hy1;rw[holdL j M h2 hM] at q3;cases q3
    have:=q2 e1;have:=(q4 e2).1;omega
   ·obtain⟨L1,q1,q2⟩:=nodenew _ _ hy1
    rw[hnewL j M h2 hM] at q1;cases q1;obtain⟨L2,q3,q4,_⟩:=nodeold _ _ hx1;rw[holdL i L h1 hL] at q3;cases q3
    have:=q2 e2;have:=(q4 e1).1;omega
   ·exact hs.mem.inj i j x y L M hx1 hy1 (holdL i L h1 hL) (holdL j M h2 hM) e1 e2 hb
  ·intro t b hb
   cases t
   ·exact aY (hs.mem.zlt _ _ hb) ext.size
   ·exact hm.zlt _ _ hb
  ·exact bL hs.mem.grow ext.size
  ·intro b hb hob
   exact(ext.same b (aY hb hs.mem.grow)).trans (hs.mem.frame b hb hob)
  ·intro t b hb;exact hsub t b (hs.mem.zin t b hb)
  ·intro b hb
   rcases fresh b hb with h1 |h1
   ·exact hs.mem.zout b h1
   ·exact .inr (.inr (bL hs.mem.grow h1))
  ·intro b hb;exact hs.mem.zb b hb
  ·intro g cs hg
   obtain⟨h1,h2⟩:=hs.mem.globs g cs hg;exact⟨hsub _ _ h1,fun j v hv=>(BO (le.same _ _ h1) _).trans (h2 j v hv)⟩
  ·intro i L hi;exact Ak _ (hs.mem.pre i L hi)
  ·exact hs.mem.sys.trans ext.sys
  ·obtain⟨U,hU⟩:=hs.mem.uls
   obtain⟨V,hV⟩:=hm.uls;have hVb: ∀i b,V i b->w.heap.size≤b:=fun i b hb=>(hV.ow i b hb).resolve_left (fun h=>h);refine⟨fun i b=>if st.n≤i then V (i - st.n) b else U i b,fun i T k els op L hi hL=>?_,fun i b hb=>?_,fun i b hb t ht=>?_,fun i b hb=>?_,fun i j b hb hb'=>?_,fun i nd L j hi hL hp hb=>?_⟩
   ·rcases look i _ hi with ⟨h1,x,hx,he⟩ |⟨h1,hx⟩
    ·simp only[h1,if_true]
     cases x with
     |ul T' k' els' op'=>
      simp only[AA,Nd.ul.injEq] at he;obtain⟨rfl,rfl,rfl,rfl⟩:=he;exact((hV.at_ _ _ _ _ _ L hx (hnewL i L h1 hL)).back hz1 (ho _ (CD hx))).ren hfw
     |_=>simp[AA] at he
    ·simp only[show ¬st.n≤i from Nat.not_le.2 h1,if_false]
     have hL':=holdL i L h1 hL;obtain⟨L',k1,k2,k3⟩:=hs.mem.nds i _ hx;rw[hL'] at k1;cases k1;exact(hU.at_ i T k els op L hx hL').on le (fun b hb=>ext.same b (hU.lt i b hb)) (k2.ul_nil.imp id (fun hp=>ext.same _ (k3 hp).1)) th'
   ·split at hb
    ·exact hV.lt _ _ hb
    ·exact aY (hU.lt _ _ hb) ext.size
   ·split at hb
    ·cases t
     ·have:=hs.mem.zlt _ _ (show z false b from ht);have:=hVb _ _ hb;omega
     ·exact hV.nz _ _ hb true ht
    ·cases t
     ·exact hU.nz _ _ hb false ht
     ·rcases fresh _ ht with h6 |h6
      ·exact hU.nz _ _ hb true h6
      ·have:=hU.lt _ _ hb;omega
   ·split at hb
    ·exact .inr (bL hs.mem.grow (hVb _ _ hb))
    ·exact hU.ow _ _ hb
   ·split at hb<;>split at hb'
    ·have:=hV.inj _ _ _ hb hb';omega
    ·have:=hVb _ _ hb;have:=hU.lt _ _ hb';omega
    ·have:=hVb _ _ hb';have:=hU.lt _ _ hb;omega
    ·exact hU.inj _ _ _ hb hb'
   ·rcases look i _ hi with ⟨h1,x,hx,he⟩ |⟨h1,hx⟩
    ·have hL':=hnewL i L h1 hL
     split at hb
     ·exact hV.kn _ _ L _ hx hL' hp hb
     ·obtain⟨L',k1,k2⟩:=nodenew _ _ hx
      rw[hL'] at k1;cases k1
      have:=k2 hp;have:=hU.lt _ _ hb;omega
    ·have hL':=holdL i L h1 hL
     split at hb
     ·obtain⟨L',k1,k2,_⟩:=nodeold _ _ hx
      rw[hL'] at k1;cases k1
      have:=(k2 hp).1;have:=hVb _ _ hb;omega
     ·exact hU.kn _ _ L _ hx hL' hp hb
  ·obtain⟨u,hu,hru⟩:=hs.slots i x hi
   exact⟨u,hu,hru.on le th'⟩
 rcases hh with ⟨rfl,hq⟩ |⟨rfl,hq⟩
 ·obtain⟨h1,h2,h3⟩:=hk y o' n' hq
  obtain⟨m1,m2⟩:=main h1 h2;exact⟨v,_,_,_,_,.inl ⟨rfl,h3⟩,rfl,m1,m2,BX _ _,ext.t⟩
 ·obtain⟨h1,h2,h3⟩:=hkp y o' n' hq
  obtain⟨m1,m2⟩:=main h1 h2;exact⟨v,_,_,_,_,.inr ⟨rfl,h3⟩,rfl,m1,m2,BX _ _,ext.t⟩
end
section
variable {P:Program} {ops:Array Oper} {Q:Exit->Act->World->Prop} {n:Nat} {L:Array Bool->Act->World->Prop}
def N1 (P:Program)(ops:Array Oper)(Q:Exit->Act->World->Prop)(n:Nat)(L:Array Bool->Act->World->Prop):Nat->Array Bool->Act->World->Prop
 |0,s,a,w=>L s a w
 |f+1,s,a,w=>Region.ready .any ops s≠[]/\ ∀i ∈ Region.ready .any ops s,i<n/\wpOp P ops Q i (fun a' w'=>Ext w w'/\N1 P ops Q n L f (s.setIfInBounds i true) a' w') a w
theorem JR {g:Nat}(hL: ∀s a w,L s a w->wpAny P .any ops Q g s a w): ∀(f:Nat)(s:Array Bool)(a:Act)(w:World),N1 P ops Q n L f s a w->wpAny P .any ops Q (f+g) s a w
 |0,s,a,w,h=>by rw[Nat.zero_add];exact hL _ _ _ h
 |f+1,s,a,w,h=>by
  rw[show f+1+g=(f+g)+1 by omega];exact⟨fun h0=>absurd h0 h.1,fun i hi=>wpOp_mono (fun a' w' h'=>JR hL f _ a' w' h'.2) (h.2 i hi).2⟩
theorem Qs {oi:Oper}{v:Value}{a:Act}{w w':World}(h:YieldsIf P ops (Ext w) oi v a)(e:Ext w w'):YieldsIf P ops (Ext w') oi v a:=
 h.imp (fun⟨h1,h2⟩=>⟨h1,fun x hx=>h2 x (e.trans hx)⟩) id
theorem Dy {i:Nat}{oi:Oper}{v:Value}(hi:ops[i]?=some oi)(hsel: ∀(j:Nat)(o:Oper) cs b,ops[j]?=some o->o.op≠ .select cs b)
  (hQ: ∀c a w,Q (.panic c) (a.put oi.dst v) w->Q (.panic c) a w) (hlt: ∀s,HeadInv .any ops n s-> ∀i,i<n->s.getD i true=false-> ∀j ∈ Region.ready .any ops s,j<n) (hin:i<n)
  (hdone: ∀s a w,L s a w-> ∀j ∈ Region.ready .any ops s,n≤j): ∀(f:Nat)(s:Array Bool)(a:Act)(w:World),HeadInv .any ops n s->
   (∀j oj,ops[j]?=some oj->j≠i->s.getD j true=false->(∀e ∈ oj.after,Region.binds .any e=true->e.on≠i)->oi.apart ops oj=true)->
   i ∈ Region.ready .any ops s->YieldsIf P ops (Ext w) oi v a->N1 P ops Q n L f (s.setIfInBounds i true) (a.put oi.dst v) w->N1 P ops Q n L (f+1) s a w:=by
 intro f
 induction f with
 |zero=>
  intro s a w inv _ hr hy H;refine⟨fun h=>(by rw[h] at hr;cases hr),fun j hj=>?_⟩;have hjn:j<n:=hlt s inv i hin (cO.1 hr).1 j hj
  by_cases hji:j=i
  ·subst hji;exact⟨hjn,hy.wpOp hi (Ext.refl w) ⟨Ext.refl w,H⟩⟩
  ·have:=hdone _ _ _ H j (ready_mono hj hji)
   omega
 |succ f ih=>
  intro s a w inv hfree hr hy H;refine⟨fun h=>(by rw[h] at hr;cases hr),fun j hj=>?_⟩;have hjn:j<n:=hlt s inv i hin (cO.1 hr).1 j hj;refine⟨hjn,?_⟩
  by_cases hji:j=i
  ·subst hji;exact hy.wpOp hi (Ext.refl w) ⟨Ext.refl w,H⟩
  ·have h1:=(H.2 j (ready_mono hj hji)).2
   obtain⟨hjun,oj,hoj,hall⟩:=cO.1 hj;have hiun:=(cO.1 hr).1
   have hnot: ∀e ∈ oj.after,Region.binds .any e=true->e.on≠i:=fun e he hb heq=>by
    have h2:=hall e he hb;rw[heq,getD_both hiun] at h2;cases h2
   have h2:=wpOp_putIf hoj (hfree j oj hoj hji hjun hnot) (fun cs b=>hsel i oi cs b hi) (fun cs b=>hsel j oj cs b hoj) hQ hy h1;refine wpOp_mono (fun a' w' h3=>⟨h3.2.1,ih _ a' w' (inv.set hj hjn) (fun k ok hk hki hun hno=>hfree k ok hk hki ?_ hno) (ready_mono hr (cL hji)) (Qs h3.1 h3.2.1) ?_⟩) h2
   ·by_cases hjk:j=k
    ·subst hjk;exact hjun
    ·rwa [getD_set_ne true hjk] at hun
   ·rw[fX _ _ hji]
    exact h3.2.2
def SZ (P:Program)(ops:Array Oper)(Q:Exit->Act->World->Prop)(n:Nat)(s:Array Bool)(a:Act)(w:World):Prop:=
 Region.seqB .any ops (ops.size - n) n s=true/\wpList P ops Q (ops.toList.drop n) a w
end
def Dm:Op->Bool
 | .call {callee:= .builtin .len,..}=>true
 | .call _ | .box .. | .alloc _ | .buildSlice .. | .store .. | .makeSlice .. | .makeMap .. | .mapUpdate .. | .panic _ | .select .. =>false
 |_=>true
def GX (ops:Array Oper)(n:Nat):List Nat->Array Bool->Bool
 | [],s=>Region.seqB .any ops (ops.size - n) n s
 |i::r,s=>decide (i<n)&&(match ops[i]? with
  |some o=>if Dm o.op=true then (Region.ready .any ops s).contains i&&Region.free .any ops s i else decide (Region.ready .any ops s=[i])
  |none=>false)&&GX ops n r (s.setIfInBounds i true)
def Ex (ops:Array Oper)(n:Nat)(ord:List Nat):Bool:=
 Region.noSelect ops&&(decide (n=ops.size)||(Region.sinkB .any ops n&&Region.chainB .any ops n&&decide (n<ops.size)))&&decide (ord.length=n)&&GX ops n ord (Array.replicate ops.size false)
def EO (P:Program)(E:Env)(N:Nat)(st:AS)(op:Op)(k kp:AV->AS->Prop):Prop:=
 match op with
 | .call {callee:= .value f,args,..}=>Ke (ev st E.G f) (FV st E.G args.toList) (fun g xs=>CallG P E N g xs st k kp)
 | .box T x=>Ap (D6 P E.G st (.box T x)) k
 | .alloc T=>Ap (D6 P E.G st (.alloc T)) k
 | .buildSlice T n ps=>Ap (Fs P E.G st (.buildSlice T n ps)) k
 | .makeMap T r=>Ap (Fs P E.G st (.makeMap T r)) k
 | .makeSlice T l c=>Ap (D6 P E.G st (.makeSlice T l c)) k
 |op=>Dm op=true/\HI (qv P E.G st op) (fun v=>k v st)
def DC (P:Program)(E:Env)(N:Nat)(ds:List (Option Nat))(kp:AV->AS->Prop)(tail:List Oper):List Oper->AS->(AS->Prop)->Prop
 | [],st,K=>Hp P E N ds kp tail st K
 |o::rest,st,K=>FC (Jn ds st o.guard) (EO P E N st o.op (fun v st'=>DC P E N ds kp tail rest (st'.put o.dst v) K) kp) (DC P E N ds kp tail rest (st.put o.dst (.r (.tuple #[]))) K)
def B3 (ops:Array Oper)(ord:List Nat):List Oper:=ord.filterMap (ops[·]?)
section
variable {P:Program} {E:Env} {N:Nat} {st:AS} {th:List NLoc} {z:AO} {a:Act} {w:World}
theorem E9 (h:Sim E N st th z a w)(o:Oper){k kp:AV->AS->Prop}(hk:EO P E N st o.op k kp)(hd: ∀i,o.dst=some i->i<N){next:Act->World->Prop}{Q:Exit->Act->World->Prop}
  (hn: ∀x st' th' z' a' w',k x st'->Sim E N (st'.put o.dst x) th' z' a' w'->Ext w w'->next a' w') (hp: ∀x v st' th' z' w',kp x st'->Sim E N st' th' z' a w'->Rep w' z' th' x v->Q (.panic [{v:=v,recovered:=false}]) a w'):o.wp P a w next Q:=by
 obtain⟨dst,op,ty,pos,aft,gd⟩:=o;simp only at hk;unfold EO at hk;split at hk
 ·rename_i f args ats
  unfold Ke at hk;split at hk
  ·rename_i g caps xs hf hx
   obtain⟨hok,hc⟩:=hk;have hf':=AL h hf;generalize hv:a.eval f=fv at hf'
   cases hf' with
   |fn _ _ _ ys hl hxx=>
    have hr:=(Bo h hx).append ⟨hl,hxx⟩;have hcall:=hc th z a w _ h hr;unfold Oper.wp
    have hrun:(execOp a.eval ⟨dst,.call {callee:= .value f,args:=args,argTypes:=ats},ty,pos,aft,gd⟩).run P w= .ok (.enter g (List.map a.eval args.toList++ys).toArray) w:=by
     simp only[execOp,resolve,hv,Deferred.ofValue,aQ,bT,aL,invoke];rw[ES hok]
     congr 2
     apply gN;simp
    rw[hrun,Oper.upon_enter];refine hcall.mono ?_;rintro e w' ⟨v,x,st',th',z',hh,hm,hs,hrr,_,hext⟩;have hext:=hext.ext
    rcases hh with ⟨rfl,hk⟩ |⟨rfl,hk⟩
    ·exact hn x st' th' z' _ w' hk (hs.put hrr dst hd) hext
    ·exact hp x v st' th' z' w' hk hs hrr
  ·exact hk.elim
 ·exact B8 (Oq h (Dv _ _ _ _ _ hk)) hd (fun x st' th' z' a' w' h1 _ h2 h3=>hn x st' th' z' a' w' h1 h2 (h3 rfl))
 ·exact B8 (Jz h (Dv _ _ _ _ _ hk)) hd (fun x st' th' z' a' w' h1 _ h2 h3=>hn x st' th' z' a' w' h1 h2 (h3 rfl))
 ·exact B8 (IQ h hk) hd (fun x st' th' z' a' w' h1 _ h2 h3=>hn x st' th' z' a' w' h1 h2 (h3 rfl))
 ·exact B8 (GK h hk) hd (fun x st' th' z' a' w' h1 _ h2 h3=>hn x st' th' z' a' w' h1 h2 (h3 rfl))
 ·exact B8 (FX h (Dv _ _ _ _ _ hk)) hd (fun x st' th' z' a' w' h1 _ h2 h3=>hn x st' th' z' a' w' h1 h2 (h3 rfl))
 ·obtain⟨_,hk⟩:=hk
  unfold HI at hk;split at hk
  ·rename_i v hq
   obtain⟨u,hr,hrun⟩:=Eu h ⟨dst,op,ty,pos,aft,gd⟩ hq;unfold Oper.wp;rw[hrun w SameK.refl,fQ];exact hn v st th z _ w hk (h.put hr dst hd) (Ext.refl w)
  ·exact hk.elim
theorem Ge {op:Op}{k kp:AV->AS->Prop}(hq:Dm op=true)(hk:EO P E N st op k kp): ∃v,qv P E.G st op=some v/\k v st:=by
 unfold EO at hk;split at hk
 ·simp[Dm] at hq
 ·simp[Dm] at hq
 ·simp[Dm] at hq
 ·simp[Dm] at hq
 ·simp[Dm] at hq
 ·simp[Dm] at hq
 ·obtain⟨_,hk⟩:=hk
  unfold HI at hk;split at hk
  ·rename_i v hv;exact⟨v,hv,hk⟩
  ·exact hk.elim
theorem H7 {ops:Array Oper}{kp:AV->AS->Prop}{Q:Exit->Act->World->Prop}{K:AS->Prop}{n:Nat}(hQ: ∀c a d v w,Q (.panic c) (a.put d v) w->Q (.panic c) a w)
  (hp: ∀x v st' th' z' a' w',kp x st'->Sim E N st' th' z' a' w'->Rep w' z' th' x v->Q (.panic [{v:=v,recovered:=false}]) a' w')
  (hK: ∀st' th' z' a' w',K st'->Sim E N st' th' z' a' w'->Q .normal a' w') (hd: ∀o ∈ ops.toList,∀i,o.dst=some i->i<N)
  (h1:Region.noSelect ops=true) (h2: ∀s,HeadInv .any ops n s-> ∀i,i<n->s.getD i true=false-> ∀j ∈ Region.ready .any ops s,j<n):
  ∀(ord:List Nat){s:Array Bool}{st:AS}{th:List NLoc}{z:AO}{a:Act}{w:World},HeadInv .any ops n s->GX ops n ord s=true->Sim E N st th z a w->DC P E N (Bf ops) kp (ops.toList.drop n) (B3 ops ord) st K->N1 P ops Q n (SZ P ops Q n) ord.length s a w
 | [],s,st,th,z,a,w,inv,ho,h,hx=>⟨ho,DL hp hK _ (fun o ho=>hd o (eJ ho)) h hx⟩
 |i::rest,s,st,th,z,a,w,inv,ho,h,hx=>by
  simp only[GX,aJ,aP] at ho;obtain⟨⟨hin,ho1⟩,ho2⟩:=ho
  cases hi:ops[i]? with
  |none=>rw[hi] at ho1;simp at ho1
  |some o=>
   simp only[B3,List.filterMap_cons,hi] at hx;unfold DC at hx;change FC _ (EO P E N st o.op (fun v st'=>DC P E N (Bf ops) kp (ops.toList.drop n) (B3 ops rest) (st'.put o.dst v) K) kp) (DC P E N (Bf ops) kp (ops.toList.drop n) (B3 ops rest) (st.put o.dst (.r (.tuple #[]))) K) at hx;have hmem:o ∈ ops.toList:=dZ.2 (dC hi);have hdo:=hd o hmem;simp only[hi] at ho1;have ih: ∀ {s:Array Bool}{st:AS}{th:List NLoc}{z:AO}{a:Act}{w:World},HeadInv .any ops n s->GX ops n rest s=true->Sim E N st th z a w->DC P E N (Bf ops) kp (ops.toList.drop n) (B3 ops rest) st K->N1 P ops Q n (SZ P ops Q n) rest.length s a w:=
    H7 hQ hp hK hd h1 h2 rest
   have guard:=DP h hx;split at ho1
   ·rename_i hq
    simp only[aJ] at ho1;obtain⟨hr,hf⟩:=ho1
    have hr':i ∈ Region.ready .any ops s:=by simpa using hr
    rcases guard with ⟨hw,hs⟩ |⟨hw,hs⟩
    ·obtain⟨x,hqv,hs⟩:=Ge hq hs
     obtain⟨v,hrep,hrun⟩:=Eu h o hqv;exact Dy hi (dI h1) (fun c a w=>hQ c a _ _ w) h2 hin (fun s a w hL=>seqB_ready hL.1) _ s a w inv (dU hi hf) hr' (.inl ⟨hw,fun w' e=>hrun w' (e.sameK h)⟩)
      (ih (inv.set hr' hin) ho2 (h.put hrep o.dst hdo) hs)
    ·exact Dy hi (dI h1) (fun c a w=>hQ c a _ _ w) h2 hin (fun s a w hL=>seqB_ready hL.1) _ s a w inv (dU hi hf) hr' (.inr ⟨hw,rfl⟩)
      (ih (inv.set hr' hin) ho2 (h.put (.r th undef) o.dst hdo) hs)
   ·simp only[aP] at ho1
    have hr':i ∈ Region.ready .any ops s:=by rw[ho1];simp
    refine⟨fun h0=>(by rw[h0] at hr';cases hr'),fun j hj=>?_⟩;rw[ho1] at hj
    obtain rfl:j=i:=by simpa using hj
    refine⟨hin,?_⟩;unfold wpOp;simp only[hi]
    rcases guard with ⟨hw,hs⟩ |⟨hw,hs⟩
    ·rw[if_pos hw]
     exact .inl (E9 h o hs hdo (fun x st' th' z' a' w' g1 g2 g3=>⟨g3,ih (inv.set hr' hin) ho2 g2 g1⟩) (fun x v st' th' z' w' g1 g2 g3=>hp x v st' th' z' a w' g1 g2 g3))
    ·rw[if_neg (by rw[hw];exact dM)]
     exact⟨Ext.refl w,ih (inv.set hr' hin) ho2 (h.put (.r th undef) o.dst hdo) hs⟩
theorem H6 (w:World):Ext w w.drew:=⟨Nat.le_refl _,fun _ _=>rfl,⟨rfl,rfl,rfl⟩⟩
theorem WU {id:Nat}{ops:Array Oper}{AQ:AExit->AS->Prop}{ds:List (Option Nat)}{l l':List Oper}(hm:P.follows .mixedOrders=true)(n:Nat)(ord:List Nat)(hB:Ex ops n ord=true)(hd:DS N ops=true)
  (hds:Bf ops=ds) (ht:ops.toList.drop n=l') (hh:B3 ops ord=l) (h:DC P E N ds (fun x st=>AQ (.pan x) st) l' l st (AQ .normal)):AWP P E N (.region id ops true) st AQ:=by
 subst hds ht hh;intro Q hQ th z a w hs;simp only[Ex,aJ,aP] at hB;obtain⟨⟨⟨b1,b2⟩,b5⟩,b6⟩:=hB
 have hle:n≤ops.size:=by
  rcases cA _ _▸b2 with b2 |b2
  ·exact eL (aZ b2)
  ·simp only[aJ,aP] at b2;exact Nat.le_of_lt b2.2
 have hlt: ∀s,HeadInv .any ops n s-> ∀i,i<n->s.getD i true=false-> ∀j ∈ Region.ready .any ops s,j<n:=by
  intro s inv i hi hs j hj
  rcases cA _ _▸b2 with b2 |b2
  ·have:=aZ b2
   obtain⟨_,oj,hoj,_⟩:=cO.1 hj;rw[this];exact(bR.1 hoj).1
  ·simp only[aJ,aP] at b2
   by_cases h:j<n
   ·exact h
   ·exact absurd hj (tail_waits b2.1.1 b2.1.2 b2.2 inv _ i rfl hi hs j (by omega))
 let Q':Exit->Act->World->Prop:=fun e a w=>match e with
  | .panic c=> ∀a':Act,a'.defers=a.defers->Q (.panic c) a' w
  |e=>Q e a w
 refine wp_mono (Q:=Q') ?_ (fun e a w hq=>by
  cases e
  case panic c=>exact hq a rfl
  all_goals exact hq)
 have inv0:HeadInv .any ops n (Array.replicate ops.size false):=
  ⟨by simp,fun j oj _ hl=>(by rw[getD_replicate_false] at hl;cases hl),fun t _ ht=>getD_in (by simpa using ht) (getD_replicate_false _ _)⟩
 refine wp_region_any hm ?_;have key:=H7 (Q:=Q') (K:=AQ .normal) (kp:=fun x st=>AQ (.pan x) st) (P:=P) (fun c a d v w hq a' ha=>hq a' (by rw[ha];cases d<;>rfl)) (fun x v st' th' z' a' w' g1 g2 g3 a2 ha=>hQ.2.2.2 x v st' th' z' w' g1 g2.mem g3 a2 (ha.trans g2.dfs))
  (fun st' th' z' a' w' g1 g2=>hQ.1 st' th' z' a' w' g1 g2) (Cq hd) b1 hlt ord inv0 b6 (hs.ext (H6 w)) h
 have:=JR (g:=ops.size - n) (fun s a w hL=>by
  have:=wpAny_of_seq (md:= .any) (Q':=Q') (ops.toList.drop n) n s a w (fun j=>by simp[bI]) (by simpa using hL.1) hL.2
  simpa using this) _ _ _ _ key
 rw[b5,show n+(ops.size - n)=ops.size by omega] at this;exact this
end
def Is (res:AV)(o:List (Nat×Nd))(n:Nat):AV->List (Nat×Nd)->Nat->Prop:=fun y o' n'=>y=res/\o'=o/\n'=n
def No:AV->List (Nat×Nd)->Nat->Prop:=fun _ _ _=>False
section
variable {P:Program} {E:Env} {N:Nat} {st:AS} {th:List NLoc} {z:AO} {a:Act} {w:World}
theorem BY (d:Nat)(T:TypeId)(k:Nat)(h:lk st.m d=some (.r (.slice none 0 0))):Emb E N st {m:=(d,.s st.n 0 0)::st.m,o:=(st.n,.lst T k [])::st.o,n:=st.n+1}:=by
 intro th z a w hs;have hk:=hs.know ⟨0,0,0,0,true⟩ (.lst T k []) (fun hp=>by cases hp) (fun _ _ _ _ _ _ hp=>by cases hp) (.inl ⟨rfl,rfl⟩) (.inl rfl);refine⟨_,z,hk.mem,hk.size,hk.dfs,fun i x hi=>?_⟩;simp only[lk] at hi;split at hi
 ·rename_i e;subst e;cases hi
  obtain⟨y,hy,hr⟩:=hs.slots d _ h;obtain rfl:=hr.r_inv;exact⟨_,hy,.sn _ _ 0 _ (hs.get_new _) rfl⟩
 ·exact hk.slots i x hi
theorem AG {x x' y:AV}{st':AS}{o:List (Nat×Nd)}{n:Nat}(hf:NI st x=some (x',st'))(h:N4 E N st' x' o n y):N4 E N st x o n y:=by
 intro th z a w v hs hr;obtain⟨z',hz,hs',hr',hm,hn⟩:=Jp x hs hr hf;exact h th z' a w v hs' (hr'.pure th)
theorem Mq {f:Nat}{xs ys:List AV}{res:AV}{os:List (Nat×Nd)}{m:Nat}{k kp:AV->AS->Prop}(hc:Con P E.G f ys [] 0 (Is res os m) No)(hb:C0 st xs=some ys)(hp:PT res)(hp': ∀p ∈ os,FZ p.2)
  (hk:k (ren (· +st.n) res) {st with o:=KG st.n os++st.o,n:=st.n+m}):CallG P E N f xs st k kp:=
 Oz hc hb (fun y o n ⟨h1,h2,h3⟩=>by subst h1 h2 h3;exact⟨hp,hp',hk⟩) (fun _ _ _ h=>h.elim)
end
def Qq:List Nat->Nat->Option Nat
 | [],_=>none
 |m::r,j=>if m=j then some 0 else (Qq r j).map (· +1)
theorem LD: ∀ {σ:List Nat}{m i:Nat},Qq σ m=some i->σ[i]?=some m
 | [],m,i,h=>by simp[Qq] at h
 |k::r,m,i,h=>by
  simp only[Qq] at h;split at h
  ·rename_i e;subst e;cases h;rfl
  ·simp only[aF] at h
   obtain⟨j,hj,rfl⟩:=h;simpa using LD hj
theorem Gz: ∀ {σ:List Nat}{m:Nat},Qq σ m=none->m ∉ σ
 | [],m,h=>by simp
 |k::r,m,h=>by
  simp only[Qq] at h;split at h
  ·cases h
  ·rename_i e
   simp only[Option.map_eq_none_iff] at h;simp[cL e,Gz h]
mutual
def L3 (σ:List Nat)(st:AS):AV->Option AV
 | .s n lo len=>match Qq σ n with
   |some i=>some (.s i lo len)
   |none=>FE st (.s n lo len)
 | .p n i off=>match Qq σ n with
   |some j=>some (.p j i off)
   |none=>FE st (.p n i off)
 | .r v=>some (.r v)
 | .ro t k els=>some (.ro t k els)
 | .re t c off=>some (.re t c off)
 | .agg c=>(Gl σ st c).map .agg
 | .tup c=>(Gl σ st c).map .tup
 | .fn f c=>(Gl σ st c).map (.fn f)
 | .ifc t x=>(L3 σ st x).map (.ifc t)
 | .q n=>match Qq σ n with
   |some j=>some (.q j)
   |none=>none
 | .u _ _ _=>none
 | .any=>some .any
def Gl (σ:List Nat)(st:AS):List AV->Option (List AV)
 | []=>some []
 |x::r=>match L3 σ st x,Gl σ st r with
  |some a,some l=>some (a::l)
  |_,_=>none
end
def fw (σ:List Nat)(n:Nat)(i:Nat):Nat:=match σ[i]? with
 |some m=>m
 |none=>n+(i - σ.length)
def DA (φ:Nat->Nat)(o:List (Nat×Nd)):List (Nat×Nd):=o.map fun p=>(φ p.1,AA φ p.2)
def N_ (σ:List Nat)(o:List (Nat×Nd)):List (Nat×Nd):=σ.foldl (fun o i=>rm o i) o
theorem Oa: ∀(σ:List Nat)(o:List (Nat×Nd))(j:Nat),lk (N_ σ o) j=if j ∈ σ then none else lk o j
 | [],o,j=>by simp[N_]
 |m::r,o,j=>by
  have:=Oa r (rm o m) j;simp only[N_,List.foldl_cons] at this ⊢;rw[this,Gw]
  by_cases h1:j ∈ r
  ·simp[h1]
  ·by_cases h2:m=j
   ·subst h2;simp
   ·simp[h1,h2,cL h2]
theorem So {φ:Nat->Nat}: ∀ {o:List (Nat×Nd)},(∀p ∈ o,∀q ∈ o,φ p.1=φ q.1->p.1=q.1)-> ∀ {j:Nat}{nd:Nd},lk (DA φ o) j=some nd-> ∃i x,lk o i=some x/\j=φ i/\nd=AA φ x
 | [],_,j,nd,h=>by simp[DA,lk] at h
 |(i,x)::r,hi,j,nd,h=>by
  simp only[DA,List.map_cons,lk] at h;split at h
  ·rename_i e;cases h;exact⟨i,x,by simp[lk],e.symm,rfl⟩
  ·rename_i e
   obtain⟨i',x',h1,h2,h3⟩:=So (fun p hp q hq=>hi p (by simp[hp]) q (by simp[hq])) (show lk (DA φ r) j=some nd from h);refine⟨i',x',?_,h2,h3⟩;simp only[lk];rw[if_neg]
   ·exact h1
   ·intro e2;subst e2;exact e h2.symm
section
variable {P:Program} {E:Env} {N:Nat} {st:AS} {th:List NLoc} {z:AO} {a:Act} {w:World}
def PA (U:Nat->Nat->Prop)(st:AS)(σ:List Nat)(th:List NLoc)(b:Nat):Prop:=(∃(i m:Nat)(nd:Nd)(L:NLoc),σ[i]?=some m/\lk st.o m=some nd/\th[m]?=some L/\L.ph=false/\L.b=b)\/ ∃m ∈ σ,U m b
def zg (U:Nat->Nat->Prop)(st:AS)(σ:List Nat)(th:List NLoc)(w:World)(z:AO):AO:=fun t b=>if t then z true b else (b<w.heap.size/\ ¬PA U st σ th b)
variable {U:Nat->Nat->Prop}
theorem Sx (h:Sim E N st th z a w)(hU:UlOK U E st.o th z w){σ:List Nat}{t:Bool}{b:Nat}(hb:z t b): ¬PA U st σ th b:=by
 rintro(⟨i,m,nd,L,h1,h2,h3,h4,rfl⟩ |⟨m,_,hm⟩)
 ·obtain⟨L',k1,_,k3⟩:=h.mem.nds m nd h2
  rw[h3] at k1;cases k1;exact(k3 h4).2.1 t hb
 ·exact hU.nz m b hm t hb
theorem IA (h:Sim E N st th z a w)(hU:UlOK U E st.o th z w)(σ:List Nat): ∀t b,z t b->zg U st σ th w z t b:=by
 intro t b hb;cases t
 ·exact⟨h.mem.zlt _ _ hb,Sx h hU hb⟩
 ·exact hb
theorem Hb (h:Sim E N st th z a w)(hU:UlOK U E st.o th z w){σ:List Nat}{m:Nat}{nd:Nd}{L:NLoc}(hm:m ∉ σ)(h1:lk st.o m=some nd)(h2:th[m]?=some L)(h3:L.ph=false): ¬PA U st σ th L.b:=by
 rintro(⟨i,m',nd',L',g1,g2,g3,g4,g5⟩ |⟨m',_,g⟩)
 ·have:=h.mem.inj m' m nd' nd L' L g2 h1 g3 h2 g4 h3 g5
  subst this;exact hm (aB g1)
 ·exact hU.kn m nd L m' h1 h2 h3 g
theorem QH (h:Sim E N st th z a w)(hU:UlOK U E st.o th z w){σ:List Nat}{m b:Nat}(hm:m ∉ σ)(hb:U m b): ¬PA U st σ th b:=by
 rintro(⟨i,m',nd',L',g1,g2,g3,g4,rfl⟩ |⟨m',hm',g⟩)
 ·exact hU.kn m' nd' L' m g2 g3 g4 hb
 ·have:=hU.inj _ _ _ hb g
  subst this;exact hm hm'
mutual
theorem Nh (h:Sim E N st th z a w)(hU:UlOK U E st.o th z w){σ:List Nat}(hσ: ∀m ∈ σ,m<th.length): ∀(x:AV){y:AV}{v:Value},L3 σ st x=some y->Rep w z th x v->Rep w (zg U st σ th w z) (Dn th σ) y v
 | .s n lo len,y,v,hb,hr=>by
   simp only[L3] at hb;split at hb
   ·rename_i i hi;cases hb
    have hg:=Ay (th:=th) hσ (LD hi)
    cases hr with
    |s _ _ _ _ c o L hL hp hl hc ho=>exact .s _ _ _ _ c o L (by rw[hg];exact hL) hp hl hc ho
    |sn _ _ lo L hL hp=>exact .sn _ _ _ L (by rw[hg];exact hL) hp
   ·rename_i hi
    simp only[FE] at hb;split at hb
    ·rename_i T k els hn
     split at hb
     ·rename_i hle;cases hb
      obtain⟨L,h1,h2,h3⟩:=h.mem.nds n _ hn;have:=hr.seen (z':=zg U st σ th w z) (t:=false) h1 h2 hle (fun hp=>(show L.b<w.heap.size/\ ¬PA U st σ th L.b from⟨(h3 hp).1,Hb h hU (Gz hi) hn h1 hp⟩)) (IA h hU σ) (Dn th σ);exact this
     ·cases hb
    ·rename_i T k els hn
     split at hb
     ·rename_i hle;cases hb
      obtain⟨L,h1,h2,h3⟩:=h.mem.nds n _ hn;have:=hr.seenU (z':=zg U st σ th w z) (t:=false) h1 h2 (hU.at_ _ _ _ _ _ _ hn h1) hle (fun hp=>(show L.b<w.heap.size/\ ¬PA U st σ th L.b from⟨(h3 hp).1,Hb h hU (Gz hi) hn h1 hp⟩))
       (fun b hb=>(show b<w.heap.size/\ ¬PA U st σ th b from⟨hU.lt n b hb,QH h hU (Gz hi) hb⟩)) (IA h hU σ) (Dn th σ)
      exact this
     ·cases hb
    ·cases hb
 | .p n i off,y,v,hb,hr=>by
   simp only[L3] at hb;split at hb
   ·rename_i j hj;cases hb
    have hg:=Ay (th:=th) hσ (LD hj)
    cases hr with
    |p _ _ _ _ L hL=>exact .p _ _ _ _ L (by rw[hg];exact hL)
   ·rename_i hi
    simp only[FE] at hb;split at hb
    ·rename_i T c hn
     split at hb
     ·rename_i hii;subst hii
      simp only[aF] at hb;obtain⟨c',hc,rfl⟩:=hb;obtain⟨rfl,hg⟩:=K4 hc;obtain⟨L,h1,⟨hp,cells,fr,h2,h3,h4,h5⟩,h6⟩:=h.mem.nds n _ hn;obtain⟨h6,h7,h8⟩:=h6 hp;obtain⟨L',hL',rfl⟩:=hr.p_inv;rw[h1] at hL';cases hL'
      have:=Rep.re_mk (w:=w) (z:=zg U st σ th w z) (th:=Dn th σ) (t:=false) (c:=c') (b:=L.b) (o:=0) (off:=off) (show L.b<w.heap.size/\ ¬PA U st σ th L.b from⟨h6,Hb h hU (Gz hi) hn h1 hp⟩) (fun j x hj=>by
       obtain⟨y,hy,hr⟩:=h5.get hj;refine⟨y,?_,(hr.ground (hg x (aB hj)) []).on' ⟨IA h hU σ,fun _ _ _=>rfl⟩⟩
       rw[Bj h2];simpa using hy)
      simpa[h4] using this
     ·cases hb
    ·cases hb
 | .r u,y,v,hb,hr=>by simp only[L3,aM] at hb;subst hb;exact(hr.ground (.inl ⟨_,rfl⟩) _).on' ⟨IA h hU σ,fun _ _ _=>rfl⟩
 | .ro t k els,y,v,hb,hr=>by simp only[L3,aM] at hb;subst hb;exact(hr.ground (.inr (.inl ⟨_,_,_,rfl⟩)) _).on' ⟨IA h hU σ,fun _ _ _=>rfl⟩
 | .re t c off,y,v,hb,hr=>by simp only[L3,aM] at hb;subst hb;exact(hr.ground (.inr (.inr ⟨_,_,_,rfl⟩)) _).on' ⟨IA h hU σ,fun _ _ _=>rfl⟩
 | .agg c,y,v,hb,hr=>by
   simp only[L3,aF] at hb;obtain⟨c',hc,rfl⟩:=hb;obtain⟨ys,rfl,hys⟩:=hr.agg_inv;have:=Ev h hU hσ c hc hys;exact .agg _ _ _ this.1 this.2
 | .tup c,y,v,hb,hr=>by
   simp only[L3,aF] at hb;obtain⟨c',hc,rfl⟩:=hb;obtain⟨ys,rfl,hys⟩:=hr.tup_inv;have:=Ev h hU hσ c hc hys;exact .tup _ _ _ this.1 this.2
 | .fn f c,y,v,hb,hr=>by
   simp only[L3,aF] at hb;obtain⟨c',hc,rfl⟩:=hb
   cases hr with
   |fn _ _ _ ys hl hx=>
    have:=Ev h hU hσ c hc ⟨hl,hx⟩;exact .fn _ _ _ _ this.1 this.2
 | .ifc t x,y,v,hb,hr=>by
   simp only[L3,aF] at hb;obtain⟨c',hc,rfl⟩:=hb
   cases hr with
   |ifc _ _ _ u hu=>exact .ifc _ _ _ _ (Nh h hU hσ x hc hu)
 | .q n,y,v,hb,hr=>by
   simp only[L3] at hb;split at hb
   ·rename_i j hj;cases hb
    have hg:=Ay (th:=th) hσ (LD hj)
    cases hr with
    |q _ _ L hL=>exact .q _ _ L (by rw[hg];exact hL)
   ·cases hb
 | .u T k els,y,v,hb,hr=>by simp[L3] at hb
 | .any,y,v,hb,hr=>by simp only[L3,aM] at hb;subst hb;exact .any _ _
theorem Ev (h:Sim E N st th z a w)(hU:UlOK U E st.o th z w){σ:List Nat}(hσ: ∀m ∈ σ,m<th.length): ∀(c:List AV){d:List AV}{vs:List Value},Gl σ st c=some d->Reps w z th c vs->Reps w (zg U st σ th w z) (Dn th σ) d vs
 | [],d,vs,hb,hr=>by
   simp only[Gl,aM] at hb;subst hb;obtain rfl:=hr.of_nil;exact .nil
 |x::r,d,vs,hb,hr=>by
  simp only[Gl] at hb;split at hb
  ·rename_i y l h1 h2;cases hb
   obtain⟨v,vs',rfl,hv,hvs⟩:=hr.head;exact .cons (Nh h hU hσ x h1 hv) (Ev h hU hσ r h2 hvs)
  ·cases hb
end
theorem ZH {σ:List Nat}{n:Nat}(hσ: ∀m ∈ σ,m<n)(hnd:σ.Nodup){i j:Nat}(h:fw σ n i=fw σ n j):i=j:=by
 unfold fw at h;split at h
 ·rename_i m hm
  split at h
  ·rename_i m' hm'
   subst h;obtain⟨l1,e1⟩:=aA.1 hm;exact(fD l1 hnd).1 (hm.trans hm'.symm)
  ·have:=hσ m (aB hm);omega
 ·rename_i hm
  have hi:σ.length≤i:=dW.1 hm;split at h
  ·rename_i m' hm'
   have:=hσ m' (aB hm');omega
  ·rename_i hm'
   have hj:σ.length≤j:=dW.1 hm';omega
theorem UlOK.tight {o:List (Nat×Nd)}(hU:UlOK U E o th z w): ∃U',UlOK U' E o th z w/\ ∀i b,U' i b-> ∃T k els op,lk o i=some (.ul T k els op):=
 ⟨fun i b=>(∃T k els op,lk o i=some (.ul T k els op))/\U i b,⟨fun i T k els op L hi hL=>let ⟨F,h1,h2,h3⟩:=hU.at_ i T k els op L hi hL;⟨F,fun a b c hc=>⟨⟨T,k,els,op,hi⟩,h1 a b c hc⟩,h2,h3⟩,fun i b hb=>hU.lt i b hb.2,fun i b hb=>hU.nz i b hb.2,fun i b hb=>hU.ow i b hb.2,fun i j b hb hb'=>hU.inj i j b hb.2 hb'.2,fun i nd L j hi hL hp hb=>hU.kn i nd L j hi hL hp hb.2⟩,fun i b hb=>hb.1⟩
def noU (σ:List Nat)(st:AS):Prop:= ∀m ∈ σ,∀T k els op,lk st.o m≠some (.ul T k els op)
def CallW (P:Program)(E:Env)(N:Nat)(f:Nat)(xs:List AV)(st:AS)(ts:List Nat)(k kp:AV->AS->Prop):Prop:=
 NC P f=true/\ ∀th z a w vs,Sim E N st th z a w->Reps w z th xs vs->Calls P f vs.toArray w (fun e w'=> ∃v x st' th' z',((e= .returned v/\k x st')\/(e= .panicked [{v:=v,recovered:=false}]/\kp x st'))/\st'.m=st.m/\Sim E N st' th' z' a w'/\Rep w' z' th' x v/\Later th th'/\(noU ts st->ExtT th ts w w'))
theorem CallW.v {f:Nat}{xs:List AV}{ts:List Nat}{k kp:AV->AS->Prop}(h:CallW P E N f xs st ts k kp):CallV P E N f xs st k kp:=
 ⟨h.1,fun th z a w vs h1 h2=>(h.2 th z a w vs h1 h2).mono fun e w' ⟨v,x,st',th',z',h3,h4,h5,h6,_⟩=>⟨v,x,st',th',z',h3,h4,h5,h6⟩⟩
theorem Oy {f:Nat}{σ:List Nat}{xs ys:List AV}{oc:List (Nat×Nd)}{Q R:AV->List (Nat×Nd)->Nat->Prop}{k kp:AV->AS->Prop}(hc:Con P E.G f ys oc σ.length Q R)(hb:Gl σ st xs=some ys)(ho:AY σ st.o oc)(hall: ∀i,i<σ.length-> ∃nd,lk oc i=some nd)
  (hlt: ∀m ∈ σ,m<st.n) (hnd:σ.Nodup) (hbig:st.n≤1000000000)
  (hk: ∀y o n,Q y o n->PT y/\(∀p ∈ o,FZ p.2)/\k (ren (fw σ st.n) y) {st with o:=DA (fw σ st.n) o++N_ σ st.o,n:=st.n+(n - σ.length)})
  (hkp: ∀y o n,R y o n->PT y/\(∀p ∈ o,FZ p.2)/\kp (ren (fw σ st.n) y) {st with o:=DA (fw σ st.n) o++N_ σ st.o,n:=st.n+(n - σ.length)}):CallW P E N f xs st σ k kp:=by
 refine⟨hc.1,fun th z a w vs hs hr=>?_⟩;obtain⟨U0,hU0⟩:=hs.mem.uls;obtain⟨U,hU,hUt⟩:=hU0.tight
 have hσ: ∀m ∈ σ,m<th.length:=fun m hm=>by rw[hs.mem.len];exact hlt m hm
 have hm1:Mem ⟨E.w0,E.own,E.z0,E.G,[],[]⟩ st.o st.n th z w:=⟨hs.mem.len,hs.mem.nds,hs.mem.inj,hs.mem.zlt,hs.mem.grow,hs.mem.frame,hs.mem.zin,hs.mem.zout,hs.mem.zb,hs.mem.globs,fun i L hi=>by simp at hi,hs.mem.sys,⟨U,hU.at_,hU.lt,hU.nz,hU.ow,hU.inj,hU.kn⟩⟩;have hm2:=hm1.ren σ hlt hbig ho (fun i hi=>by simp at hi) hnd
 have known: ∀i m,σ[i]?=some m-> ∃x nd L,lk oc i=some x/\lk st.o m=some nd/\(Dn th σ)[i]?=some L/\th[m]?=some L:=by
  intro i m hi;obtain⟨x,hx⟩:=hall i (aA.1 hi).1;obtain⟨j,hj,h2⟩:=ho _ (CD hx);simp only at hj;rw[hi] at hj;cases hj;obtain⟨L,h3,_⟩:=hs.mem.nds m _ h2;exact⟨x,_,L,hx,h2,by rw[Ay hσ hi];exact h3,h3⟩
 have hgiv: ∀b,(∃i nd L,lk oc i=some nd/\(Dn th σ)[i]?=some L/\L.ph=false/\L.b=b)->PA U st σ th b:=by
  rintro b ⟨i,nd,L,h1,h2,h3,h4⟩
  have hi:i<σ.length:=by have:=(aA.1 h2).1;simpa[Dn] using this
  obtain⟨x,nd',L',k1,k2,k3,k4⟩:=known i σ[i] (by simp[hi]);rw[h2] at k3;cases k3;exact .inl ⟨i,σ[i],nd',L,by simp[hi],k2,k4,h3,h4⟩
 have lez:Le w z w (zg U st σ th w z):=⟨IA hs hU σ,fun _ _ _=>rfl⟩
 have hzlt: ∀t b,zg U st σ th w z t b->b<w.heap.size:=by
  intro t b h;cases t
  ·exact h.1
  ·exact hs.mem.zlt _ _ h
 have hmem0:Mem ⟨w,PA U st σ th,zg U st σ th w z,E.G,Dn th σ,[]⟩ oc σ.length (Dn th σ) (zg U st σ th w z) w:=by
  refine⟨hm2.len,fun i nd hi=>?_,hm2.inj,hzlt,Nat.le_refl _,fun _ _ _=>rfl,fun _ _ h=>h,fun b h=> .inl h,fun b h=>h,fun g cs hg=>?_,fun i L hi=>hi,Sys.refl w,?_⟩
  ·obtain⟨L,h1,h2,h3⟩:=hm2.nds i nd hi
   have hown:L.ph=false->PA U st σ th L.b:=fun hp=>hgiv _ ⟨i,nd,L,hi,h1,hp,rfl⟩;refine⟨L,h1,by simpa using h2.on lez (fun _=>rfl) [],fun hp=>⟨(h3 hp).1,fun t ht=>?_,.inl (hown hp)⟩⟩;cases t
   ·exact ht.2 (hown hp)
   ·exact(h3 hp).2.1 true ht
  ·obtain⟨h1,h2⟩:=hs.mem.globs g cs hg
   exact⟨h1,h2⟩
  ·refine⟨fun i b=> ∃m,σ[i]?=some m/\U m b,fun i T k els op L hi hL=>?_,fun i b ⟨m,_,hb⟩=>hU.lt m b hb,fun i b ⟨m,hm,hb⟩ t ht=>?_,fun i b ⟨m,hm,hb⟩=> .inl (.inr ⟨m,aB hm,hb⟩),fun i j b ⟨m,hm,hb⟩ ⟨m',hm',hb'⟩=>?_,fun i nd L j hi hL hp ⟨m,hm,hb⟩=>?_⟩
   ·obtain⟨j,hj,h2⟩:=ho _ (CD hi)
    simp only at hj;rw[Ay hσ hj] at hL;obtain⟨F,f1,f2,f3⟩:=(((hU.at_ j T k els _ L h2 hL).unren (DY hσ (by rw[hs.mem.len];exact hbig))).on lez (fun _ _=>rfl) (.inr rfl) []:UlAt w _ (Dn th σ++[]) _ _ _ _);rw[List.append_nil] at f3;exact⟨F,fun a b c hc=>⟨j,hj,f1 a b c hc⟩,f2,f3⟩
   ·cases t
    ·exact ht.2 (.inr ⟨m,aB hm,hb⟩)
    ·exact hU.nz m b hb true ht
   ·have:=hU.inj _ _ _ hb hb'
    subst this;obtain⟨l1,e1⟩:=aA.1 hm;exact(fD l1 hnd).1 (hm.trans hm'.symm)
   ·obtain⟨j',hj',h2⟩:=ho _ (CD hi)
    simp only at hj';rw[Ay hσ hj'] at hL;exact hU.kn j' _ L m h2 hL hp hb
 refine(hc.2 w (Dn th σ) (zg U st σ th w z) (PA U st σ th) vs hgiv hmem0 (Ev hs hU hσ xs hb hr)).mono ?_;rintro e w' ⟨v,y,o',n',th',z',hh,hm,hv⟩
 have hn':σ.length≤n':=by
  by_cases h0:σ.length=0
  ·omega
  ·have hi:σ.length - 1<σ.length:=by omega
   obtain⟨x,nd',L',k1,k2,k3,k4⟩:=known (σ.length - 1) σ[σ.length - 1] (by simp[hi]);have:=(aA.1 (hm.pre _ _ k3)).1;rw[hm.len] at this;omega
 have same: ∀b,b<w.heap.size-> ¬PA U st σ th b->w'.heap[b]?=w.heap[b]?:=fun b hb hg=>hm.frame b hb hg
 have extT:noU σ st->ExtT th σ w w':=fun hno=>⟨hm.grow,fun b hb hne=>same b hb (by
  rintro(⟨i,m,nd,L,h1,h2,h3,h4,h5⟩ |⟨m,hm,hb⟩)
  ·exact hne m (aB h1) L h3 h4 h5
  ·obtain⟨T,k,els,op,hq⟩:=hUt m b hb
   exact hno m hm T k els op hq),hm.sys⟩
 have main:PT y->(∀p ∈ o',FZ p.2)->Sim E N {st with o:=DA (fw σ st.n) o'++N_ σ st.o,n:=st.n+(n' - σ.length)} (th++th'.drop σ.length) (Wh z z') a w'/\Rep w' (Wh z z') (th++th'.drop σ.length) (ren (fw σ st.n) y) v:=by
  intro hy hop
  have hsub: ∀t b,z t b->Wh z z' t b:=by
   intro t b hb;cases t
   ·exact hb
   ·exact hm.zin true b (show zg U st σ th w z true b from hb)
  have le:Le w z w' (Wh z z'):=⟨hsub,fun t b hb=>same b (hs.mem.zlt t b hb) (Sx hs hU hb)⟩
  have hfw: ∀(i:Nat) L,th'[i]?=some L->(th++th'.drop σ.length)[fw σ st.n i]?=some L:=by
   intro i L hi;unfold fw;split
   ·rename_i m hmm
    obtain⟨x,nd',L',k1,k2,k3,k4⟩:=known i m hmm;have:=hm.pre i L' k3;rw[hi] at this;cases this;exact Ak _ k4
   ·rename_i hmm
    have hi':σ.length≤i:=dW.1 hmm;rw[bQ (by rw[hs.mem.len];omega),hs.mem.len,bI,show σ.length+(st.n+(i - σ.length) - st.n)=i by omega];exact hi
  have hz1: ∀b,z' true b->Wh z z' true b:=fun b hb=>hb;have fresh: ∀b,z' true b->z true b\/PA U st σ th b\/w.heap.size≤b:=fun b hb=>hm.zout b hb
  have givE: ∀b,PA U st σ th b->(E.own b\/E.w0.heap.size≤b)/\b<w.heap.size/\ ∀t,¬z t b:=by
   rintro b (⟨i,m,nd,L,h1,h2,h3,h4,rfl⟩ |⟨m,_,hb⟩)
   ·obtain⟨L',k1,_,k3⟩:=hs.mem.nds m nd h2
    rw[h3] at k1;cases k1;exact⟨(k3 h4).2.2,(k3 h4).1,(k3 h4).2.1⟩
   ·exact⟨hU.ow m b hb,hU.lt m b hb,hU.nz m b hb⟩
  have keys: ∀p ∈ o',∀q ∈ o',fw σ st.n p.1=fw σ st.n q.1->p.1=q.1:=fun p _ q _ h=>ZH hlt hnd h
  have look: ∀j nd,lk (DA (fw σ st.n) o'++N_ σ st.o) j=some nd->(∃i x,lk o' i=some x/\j=fw σ st.n i/\nd=AA (fw σ st.n) x)\/(j ∉ σ/\lk st.o j=some nd):=by
   intro j nd hj;rw[Dq] at hj
   cases hq:lk (DA (fw σ st.n) o') j with
   |some x=>rw[hq] at hj;cases hj;exact .inl (So keys hq)
   |none=>
    rw[hq] at hj;simp only[Oa] at hj;split at hj
    ·cases hj
    ·exact .inr ⟨by assumption,hj⟩
  have newn: ∀i x,lk o' i=some x-> ∃L,th'[i]?=some L/\NdAt w' z' th' L x/\(L.ph=false->L.b<w'.heap.size/\(∀t,¬z' t L.b)/\(PA U st σ th L.b\/w.heap.size≤L.b)):=fun i x hi=>hm.nds i x hi
  have oldn: ∀j nd,j ∉ σ->lk st.o j=some nd-> ∃L,th[j]?=some L/\NdAt w z th L nd/\(L.ph=false->L.b<w.heap.size/\(∀t,¬z t L.b)/\(E.own L.b\/E.w0.heap.size≤L.b)/\ ¬PA U st σ th L.b):=by
   intro j nd hj hnd';obtain⟨L,h1,h2,h3⟩:=hs.mem.nds j nd hnd';exact⟨L,h1,h2,fun hp=>⟨(h3 hp).1,(h3 hp).2.1,(h3 hp).2.2,Hb hs hU hj hnd' h1 hp⟩⟩
  refine⟨⟨⟨?_,?_,?_,?_,?_,?_,?_,?_,?_,?_,?_,?_,?_⟩,hs.size,hs.dfs,fun i x hi=>?_⟩,(hv.back hz1 hy).ren hfw⟩
  ·simp[hs.mem.len,hm.len]
  ·intro j nd hj
   rcases look j nd hj with ⟨i,x,hx,rfl,rfl⟩ |⟨hj1,hj2⟩
   ·obtain⟨L,h1,h2,h3⟩:=newn i x hx
    refine⟨L,hfw _ _ h1,(h2.back hz1 (hop _ (CD hx))).ren hfw,fun hp=>?_⟩;obtain⟨h3,h4,h5⟩:=h3 hp;refine⟨h3,fun t ht=>?_,?_⟩
    ·cases t
     ·have hlt':=hs.mem.zlt _ _ (show z false L.b from ht)
      rcases h5 with h5 |h5
      ·exact Sx hs hU (show z false L.b from ht) h5
      ·omega
     ·exact h4 true ht
    ·rcases h5 with h5 |h5
     ·exact(givE _ h5).1
     ·exact .inr (bL hs.mem.grow h5)
   ·obtain⟨L,h1,h2,h3⟩:=oldn j nd hj1 hj2
    refine⟨L,Ak _ h1,h2.on le (fun hp=>same _ (h3 hp).1 (h3 hp).2.2.2) _,fun hp=>?_⟩;obtain⟨h3,h4,h5,h6⟩:=h3 hp;refine⟨aY h3 hm.grow,fun t ht=>?_,h5⟩;cases t
    ·exact h4 false ht
    ·rcases fresh _ ht with h7 |h7 |h7
     ·exact h4 true h7
     ·exact h6 h7
     ·omega
  ·intro i j x y L M hi hj hL hM e1 e2 hbb
   rcases look i x hi with ⟨i1,x1,hx1,rfl,rfl⟩ |⟨hi1,hi2⟩<;>rcases look j y hj with ⟨j1,y1,hy1,rfl,rfl⟩ |⟨hj1,hj2⟩
   ·obtain⟨L1,q1,_,q2⟩:=newn _ _ hx1
    obtain⟨L2,q3,_,q4⟩:=newn _ _ hy1;have r1:=hfw _ _ q1;rw[hL] at r1;cases r1;have r2:=hfw _ _ q3;rw[hM] at r2;cases r2;have:=hm.inj i1 j1 x1 y1 L M hx1 hy1 q1 q3 e1 e2 hbb;rw[this]
   ·obtain⟨L1,q1,_,q2⟩:=newn _ _ hx1
    obtain⟨L2,q3,_,q4⟩:=oldn _ _ hj1 hj2;have r1:=hfw _ _ q1;rw[hL] at r1;cases r1;have r2:=Ak (th'.drop σ.length) q3;rw[hM] at r2;cases r2
    rcases(q2 e1).2.2 with h5 |h5
    ·rw[hbb] at h5;exact((q4 e2).2.2.2 h5).elim
    ·have:=(q4 e2).1;omega
   ·obtain⟨L1,q1,_,q2⟩:=newn _ _ hy1
    obtain⟨L2,q3,_,q4⟩:=oldn _ _ hi1 hi2;have r1:=hfw _ _ q1;rw[hM] at r1;cases r1;have r2:=Ak (th'.drop σ.length) q3;rw[hL] at r2;cases r2
    rcases(q2 e2).2.2 with h5 |h5
    ·rw[<-hbb] at h5;exact((q4 e1).2.2.2 h5).elim
    ·have:=(q4 e1).1;omega
   ·obtain⟨L1,q1,_,_⟩:=oldn _ _ hi1 hi2
    obtain⟨L2,q3,_,_⟩:=oldn _ _ hj1 hj2;have r1:=Ak (th'.drop σ.length) q1;rw[hL] at r1;cases r1;have r2:=Ak (th'.drop σ.length) q3;rw[hM] at r2;cases r2;exact hs.mem.inj i j x y L M hi2 hj2 q1 q3 e1 e2 hbb
  ·intro t b hb
   cases t
   ·exact aY (hs.mem.zlt _ _ hb) hm.grow
   ·exact hm.zlt _ _ hb
  ·exact bL hs.mem.grow hm.grow
  ·intro b hb hob
   refine(same b (aY hb hs.mem.grow) (fun hg=>?_)).trans (hs.mem.frame b hb hob)
   rcases(givE b hg).1 with h1 |h1
   ·exact hob h1
   ·omega
  ·intro t b hb;exact hsub t b (hs.mem.zin t b hb)
  ·intro b hb
   rcases fresh b hb with h1 |h1 |h1
   ·exact hs.mem.zout b h1
   ·exact .inr (givE b h1).1
   ·exact .inr (.inr (bL hs.mem.grow h1))
  ·intro b hb;exact hs.mem.zb b hb
  ·intro g cs hg
   obtain⟨h1,h2⟩:=hs.mem.globs g cs hg;exact⟨hsub _ _ h1,fun j v hv=>(BO (le.same _ _ h1) _).trans (h2 j v hv)⟩
  ·intro i L hi;exact Ak _ (hs.mem.pre i L hi)
  ·exact hs.mem.sys.trans hm.sys
  ·obtain⟨V,hV⟩:=hm.uls
   have hVb: ∀i b,V i b->PA U st σ th b\/w.heap.size≤b:=fun i b hb=>hV.ow i b hb
   have cross: ∀i j b,V i b->j ∉ σ->U j b->False:=fun i j b h1 h2 h3=>by
    rcases hVb i b h1 with h4 |h4
    ·exact QH hs hU h2 h3 h4
    ·have:=hU.lt j b h3;omega
   refine⟨fun j b=>(∃i,fw σ st.n i=j/\V i b)\/(j ∉ σ/\U j b),fun j T k els op L hj hL=>?_,fun j b hb=>?_,fun j b hb t ht=>?_,fun j b hb=>?_,fun j j' b hb hb'=>?_,fun j nd L q hj hL hp hb=>?_⟩
   ·rcases look j _ hj with ⟨i,x,hx,rfl,he⟩ |⟨hj1,hj2⟩
    ·obtain⟨L',k1,_,_⟩:=newn _ _ hx
     have r1:=hfw _ _ k1;rw[hL] at r1;cases r1
     cases x with
     |ul T' k' els' op'=>
      simp only[AA,Nd.ul.injEq] at he;obtain⟨rfl,rfl,rfl,rfl⟩:=he;obtain⟨F,f1,f2,f3⟩:=((hV.at_ _ _ _ _ _ L hx k1).back hz1 (hop _ (CD hx))).ren hfw;exact⟨F,fun a b c hc=> .inl ⟨i,rfl,f1 a b c hc⟩,f2,f3⟩
     |_=>simp[AA] at he
    ·obtain⟨L',k1,k2,k3⟩:=oldn _ _ hj1 hj2
     have r1:=Ak (th'.drop σ.length) k1;rw[hL] at r1;cases r1;obtain⟨F,f1,f2,f3⟩:=(hU.at_ j T k els op L hj2 k1).on le (fun b hb=>same b (hU.lt j b hb) (QH hs hU hj1 hb)) (k2.ul_nil.imp id (fun hp=>same _ (k3 hp).1 (k3 hp).2.2.2)) (th'.drop σ.length);exact⟨F,fun a b c hc=> .inr ⟨hj1,f1 a b c hc⟩,f2,f3⟩
   ·rcases hb with ⟨i,_,hb⟩ |⟨_,hb⟩
    ·exact hV.lt i b hb
    ·exact aY (hU.lt j b hb) hm.grow
   ·rcases hb with ⟨i,_,hb⟩ |⟨hj,hb⟩
    ·cases t
     ·have hz0:z false b:=ht
      rcases hVb i b hb with h4 |h4
      ·exact Sx hs hU hz0 h4
      ·have:=hs.mem.zlt _ _ hz0;omega
     ·exact hV.nz i b hb true ht
    ·cases t
     ·exact hU.nz j b hb false ht
     ·rcases fresh _ ht with h7 |h7 |h7
      ·exact hU.nz j b hb true h7
      ·exact QH hs hU hj hb h7
      ·have:=hU.lt j b hb;omega
   ·rcases hb with ⟨i,_,hb⟩ |⟨_,hb⟩
    ·rcases hVb i b hb with h4 |h4
     ·exact(givE b h4).1
     ·exact .inr (bL hs.mem.grow h4)
    ·exact hU.ow j b hb
   ·rcases hb with ⟨i,rfl,hb⟩ |⟨hj,hb⟩<;>rcases hb' with ⟨i',rfl,hb'⟩ |⟨hj',hb'⟩
    ·rw[hV.inj i i' b hb hb']
    ·exact(cross i j' b hb hj' hb').elim
    ·exact(cross i' j b hb' hj hb).elim
    ·exact hU.inj j j' b hb hb'
   ·rcases look j _ hj with ⟨i,x,hx,rfl,he⟩ |⟨hj1,hj2⟩
    ·obtain⟨L',k1,_,k3⟩:=newn _ _ hx
     have r1:=hfw _ _ k1;rw[hL] at r1;cases r1
     rcases hb with ⟨i',_,hb⟩ |⟨hq,hb⟩
     ·exact hV.kn i x L i' hx k1 hp hb
     ·rcases(k3 hp).2.2 with h4 |h4
      ·exact QH hs hU hq hb h4
      ·have:=hU.lt q _ hb;omega
    ·obtain⟨L',k1,k2,k3⟩:=oldn _ _ hj1 hj2
     have r1:=Ak (th'.drop σ.length) k1;rw[hL] at r1;cases r1
     rcases hb with ⟨i',_,hb⟩ |⟨hq,hb⟩
     ·rcases hVb i' _ hb with h4 |h4
      ·exact(k3 hp).2.2.2 h4
      ·have:=(k3 hp).1;omega
     ·exact hU.kn j nd L q hj2 k1 hp hb
  ·obtain⟨u,hu,hru⟩:=hs.slots i x hi
   exact⟨u,hu,hru.on le _⟩
 rcases hh with ⟨rfl,hq⟩ |⟨rfl,hq⟩
 ·obtain⟨h1,h2,h3⟩:=hk y o' n' hq
  obtain⟨m1,m2⟩:=main h1 h2;exact⟨v,_,_,_,_,.inl ⟨rfl,h3⟩,rfl,m1,m2,BX _ _,extT⟩
 ·obtain⟨h1,h2,h3⟩:=hkp y o' n' hq
  obtain⟨m1,m2⟩:=main h1 h2;exact⟨v,_,_,_,_,.inr ⟨rfl,h3⟩,rfl,m1,m2,BX _ _,extT⟩
end
inductive SR where
 |val (v:AV) (st:AS)
 |cond (c:Prop) (v:AV) (st:AS)
 |call (g:Nat) (xs:List AV)
 |pan (x:AV)
 |bad
def Iu (st:AS):Option AV->SR
 |some v=> .val v st
 |none=> .bad
def OX:Option (Prop×AV×AS)->SR
 |some (c,v,s)=> .cond c v s
 |none=> .bad
def Up (P:Program)(G:List (Nat×List Value))(st:AS)(op:Op):Option (Prop×AV×AS)->SR
 |some (c,v,s)=> .cond c v s
 |none=>OX (FY P G st op)
theorem RP (P:Program)(G:List (Nat×List Value))(st:AS)(op:Op):Up P G st op (D6 P G st op)=OX (Fs P G st op):=by
 unfold Fs
 cases D6 P G st op with
 |none=>rfl
 |some r=>obtain⟨c,v,s⟩:=r;rfl
def X9:Option AV->Option (List AV)->SR
 |some (.fn g caps),some xs=> .call g (xs++caps)
 |_,_=> .bad
def Yz:Option AV->SR
 |some (.ifc t v)=> .pan (.ifc t v)
 |_=> .bad
def ZN (P:Program)(G:List (Nat×List Value))(st:AS):Call->SR
 | {callee:= .value f,args,..}=>X9 (ev st G f) (FV st G args.toList)
 | {callee:= .builtin .append,args,argTypes}=>Up P G st (.call {callee:= .builtin .append,args:=args,argTypes:=argTypes}) (D6 P G st (.call {callee:= .builtin .append,args:=args,argTypes:=argTypes}))
 | {callee:= .builtin .clear,args,argTypes}=>OX (D6 P G st (.call {callee:= .builtin .clear,args:=args,argTypes:=argTypes}))
 |c=>Iu st (qv P G st (.call c))
def Aa (P:Program)(G:List (Nat×List Value))(st:AS):Op->SR
 | .call c=>ZN P G st c
 | .box T x=>OX (D6 P G st (.box T x))
 | .alloc T=>OX (D6 P G st (.alloc T))
 | .buildSlice T n ps=>Up P G st (.buildSlice T n ps) (D6 P G st (.buildSlice T n ps))
 | .store T x v=>Up P G st (.store T x v) (D6 P G st (.store T x v))
 | .makeMap T r=>OX (FY P G st (.makeMap T r))
 | .mapUpdate T m i v=>OX (FY P G st (.mapUpdate T m i v))
 | .makeSlice T l c=>OX (D6 P G st (.makeSlice T l c))
 | .panic x=>Yz (ev st G x)
 |op=>Iu st (qv P G st op)
def Ig (P:Program)(E:Env)(N:Nat)(r:SR)(st:AS)(k kp:AV->AS->Prop):Prop:=match r with
 | .val v st'=>k v st'
 | .cond c v st'=>c/\k v st'
 | .call g xs=>CallV P E N g xs st k kp
 | .pan x=>kp x st
 | .bad=>False
def Jf (P:Program)(E:Env)(N:Nat)(r:SR)(st:AS)(k kp:AV->AS->Prop):Prop:=match r with
 | .val v st'=>k v st'
 | .cond c v st'=>c/\k v st'
 | .call g xs=>CallG P E N g xs st k kp
 | .pan x=>kp x st
 | .bad=>False
section
variable {P:Program} {E:Env} {N:Nat} {st:AS} {k kp:AV->AS->Prop}
theorem BZ {G:List (Nat×List Value)}{c:Call}(h1: ∀f,c.callee≠ .value f)(h2:c.callee≠ .builtin .append)(h3:c.callee≠ .builtin .clear):Aa P G st (.call c)=Iu st (qv P G st (.call c)):=by
 obtain⟨callee,args,ats⟩:=c
 cases callee with
 |value f=>exact absurd rfl (h1 f)
 |builtin b=>cases b<;>first |rfl |exact absurd rfl h2 |exact absurd rfl h3
 |invoke a b=>rfl
theorem Lj {x:Option AV}(h:Ig P E N (Iu st x) st k kp):HI x (fun v=>k v st):=by
 cases x with
 |none=>exact h.elim
 |some v=>exact h
theorem Fe {x:Option (Prop×AV×AS)}(h:Ig P E N (OX x) st k kp):Ap x k:=by
 cases x with
 |none=>exact h.elim
 |some v=>exact h
theorem Li {op:Op}(h:Ig P E N (Up P E.G st op (D6 P E.G st op)) st k kp):Ap (Fs P E.G st op) k:=by rw[RP] at h;exact Fe h
theorem VA (op:Op)(h:Ig P E N (Aa P E.G st op) st k kp):NT P E N st op k kp:=by
 cases op
 case call c=>
  obtain⟨callee,args,ats⟩:=c
  cases callee with
  |value f=>
   change Ig P E N (X9 (ev st E.G f) (FV st E.G args.toList)) st k kp at h;change Ke (ev st E.G f) (FV st E.G args.toList) (fun g xs=>CallV P E N g xs st k kp)
   revert h
   generalize ev st E.G f=a;generalize FV st E.G args.toList=b;intro h;unfold X9 at h;split at h
   ·exact h
   ·exact h.elim
  |builtin b=>
   cases b
   case append=>exact Li h
   case clear=>exact(show False from h).elim
   all_goals (rw[BZ (by simp) (by simp) (by simp)] at h;exact Lj h)
  |invoke a b=>rw[BZ (by simp) (by simp) (by simp)] at h;exact Lj h
 case panic x=>
  change Ig P E N (Yz (ev st E.G x)) st k kp at h;change HI (ev st E.G x) _
  revert h
  generalize ev st E.G x=a;intro h;unfold Yz at h;split at h
  ·exact h
  ·exact h.elim
 case box=>exact Fe h
 case alloc=>exact Fe h
 case buildSlice=>exact Li h
 case store=>exact Li h
 case makeMap=>exact Fe h
 case mapUpdate=>exact Fe h
 case makeSlice=>exact Fe h
 all_goals first |exact(show False from h).elim |exact Lj (st:=st) (x:=qv P E.G st _) h
def Uq:Op->Bool
 | .call {callee:= .value _,..}=>true
 | .box .. | .alloc _ | .buildSlice .. | .makeSlice .. | .makeMap .. =>true
 |op=>Dm op
theorem Pi {x:Option AV}(h:Jf P E N (Iu st x) st k kp):HI x (fun v=>k v st):=by
 cases x with
 |none=>exact h.elim
 |some v=>exact h
theorem Gg {x:Option (Prop×AV×AS)}(h:Jf P E N (OX x) st k kp):Ap x k:=by
 cases x with
 |none=>exact h.elim
 |some v=>exact h
theorem VJ {op:Op}(h:Jf P E N (Up P E.G st op (D6 P E.G st op)) st k kp):Ap (Fs P E.G st op) k:=by rw[RP] at h;exact Gg h
theorem V9 (op:Op)(hg:Uq op=true)(h:Jf P E N (Aa P E.G st op) st k kp):EO P E N st op k kp:=by
 cases op
 case call c=>
  obtain⟨callee,args,ats⟩:=c
  cases callee with
  |value f=>
   change Jf P E N (X9 (ev st E.G f) (FV st E.G args.toList)) st k kp at h;change Ke (ev st E.G f) (FV st E.G args.toList) (fun g xs=>CallG P E N g xs st k kp)
   revert h
   generalize ev st E.G f=a;generalize FV st E.G args.toList=b;intro h;unfold X9 at h;split at h
   ·exact h
   ·exact h.elim
  |builtin b=>
   cases b
   case len=>rw[BZ (by simp) (by simp) (by simp)] at h;exact⟨rfl,Pi h⟩
   all_goals cases hg
  |invoke a b=>cases hg
 case panic x=>cases hg
 case store=>cases hg
 case select=>cases hg
 case box=>exact Gg h
 case alloc=>exact Gg h
 case buildSlice=>exact VJ h
 case makeMap=>exact Gg h
 case mapUpdate=>cases hg
 case makeSlice=>exact Gg h
 all_goals first |exact(show False from h).elim |exact⟨rfl,Pi (st:=st) (x:=qv P E.G st _) h⟩
theorem Ti {r:SR}{k' kp':AV->AS->Prop}(h:Ig P E N r st k kp)(hk: ∀v s,k v s->k' v s)(hp: ∀v s,kp v s->kp' v s):Ig P E N r st k' kp':=by
 cases r with
 |val v s=>exact hk _ _ h
 |cond c v s=>exact⟨h.1,hk _ _ h.2⟩
 |call g xs=>exact CallV.mono h hk hp
 |pan x=>exact hp _ _ h
 |bad=>exact h
theorem Th {r:SR}{k' kp':AV->AS->Prop}(h:Jf P E N r st k kp)(hk: ∀v s,k v s->k' v s)(hp: ∀v s,kp v s->kp' v s):Jf P E N r st k' kp':=by
 cases r with
 |val v s=>exact hk _ _ h
 |cond c v s=>exact⟨h.1,hk _ _ h.2⟩
 |call g xs=>exact CallT.mono h hk hp
 |pan x=>exact hp _ _ h
 |bad=>exact h
end
def ex (P:Program)(E:Env)(N:Nat)(ds:List (Option Nat))(kp:AV->AS->Prop):List Oper->AS->(AS->Prop)->Prop
 | [],st,K=>K st
 |o::rest,st,K=>match Jn ds st o.guard with
  | .yes=>Ig P E N (Aa P E.G st o.op) st (fun v st'=>ex P E N ds kp rest (st'.put o.dst v) K) kp
  | .no=>ex P E N ds kp rest (st.put o.dst (.r (.tuple #[]))) K
  | .bad=>False
  | .ask b w=>(b=w->Ig P E N (Aa P E.G st o.op) st (fun v st'=>ex P E N ds kp rest (st'.put o.dst v) K) kp)/\(b= !w->ex P E N ds kp rest (st.put o.dst (.r (.tuple #[]))) K)
def He (P:Program)(E:Env)(N:Nat)(ds:List (Option Nat))(kp:AV->AS->Prop)(tail:List Oper):List Oper->AS->(AS->Prop)->Prop
 | [],st,K=>ex P E N ds kp tail st K
 |o::rest,st,K=>match Jn ds st o.guard with
  | .yes=>Jf P E N (Aa P E.G st o.op) st (fun v st'=>He P E N ds kp tail rest (st'.put o.dst v) K) kp
  | .no=>He P E N ds kp tail rest (st.put o.dst (.r (.tuple #[]))) K
  | .bad=>False
  | .ask b w=>(b=w->Jf P E N (Aa P E.G st o.op) st (fun v st'=>He P E N ds kp tail rest (st'.put o.dst v) K) kp)/\(b= !w->He P E N ds kp tail rest (st.put o.dst (.r (.tuple #[]))) K)
section
variable {P:Program} {E:Env} {N:Nat} {ds:List (Option Nat)} {kp:AV->AS->Prop} {K:AS->Prop}
theorem Eb: ∀ {l:List Oper}{st:AS},ex P E N ds kp l st K->Hp P E N ds kp l st K
 | [],st,h=>h
 |o::rest,st,h=>by
  unfold ex at h;unfold Hp;have go:Ig P E N (Aa P E.G st o.op) st (fun v st'=>ex P E N ds kp rest (st'.put o.dst v) K) kp->NT P E N st o.op (fun v st'=>Hp P E N ds kp rest (st'.put o.dst v) K) kp:=
   fun h=>VA _ (Ti h (fun _ _ h=>Eb h) (fun _ _ h=>h))
  split at h
  ·rename_i e;rw[e];exact go h
  ·rename_i e;rw[e];exact Eb h
  ·exact h.elim
  ·rename_i e;rw[e];exact⟨fun e=>go (h.1 e),fun e=>Eb (h.2 e)⟩
theorem F7 {tail:List Oper}: ∀ {l:List Oper}{st:AS},(l.all fun o=>Uq o.op)=true->He P E N ds kp tail l st K->DC P E N ds kp tail l st K
 | [],st,_,h=>Eb h
 |o::rest,st,hg,h=>by
  simp only[List.all_cons,aJ] at hg;unfold He at h;unfold DC;have go:Jf P E N (Aa P E.G st o.op) st (fun v st'=>He P E N ds kp tail rest (st'.put o.dst v) K) kp->EO P E N st o.op (fun v st'=>DC P E N ds kp tail rest (st'.put o.dst v) K) kp:=
   fun h=>V9 _ hg.1 (Th h (fun _ _ h=>F7 hg.2 h) (fun _ _ h=>h))
  split at h
  ·rename_i e;rw[e];exact go h
  ·rename_i e;rw[e];exact F7 hg.2 h
  ·exact h.elim
  ·rename_i e;rw[e];exact⟨fun e=>go (h.1 e),fun e=>F7 hg.2 (h.2 e)⟩
end
section
variable (P:Program) (E:Env) (N:Nat) (ds:List (Option Nat)) (kp:AV->AS->Prop) (tail rest:List Oper) (st:AS) (K:AS->Prop)
def Oi (g:GV)(d:Option Nat)(op:Op):Prop:=match g with
 | .yes=>Ig P E N (Aa P E.G st op) st (fun v st'=>ex P E N ds kp rest (st'.put d v) K) kp
 | .no=>ex P E N ds kp rest (st.put d (.r (.tuple #[]))) K
 | .bad=>False
 | .ask b w=>(b=w->Ig P E N (Aa P E.G st op) st (fun v st'=>ex P E N ds kp rest (st'.put d v) K) kp)/\(b= !w->ex P E N ds kp rest (st.put d (.r (.tuple #[]))) K)
def XW (r:SR)(d:Option Nat):Prop:=Ig P E N r st (fun v st'=>ex P E N ds kp rest (st'.put d v) K) kp
def O9 (g:Nat)(xs:List AV)(d:Option Nat):Prop:=CallV P E N g xs st (fun v st'=>ex P E N ds kp rest (st'.put d v) K) kp
def GD (g:GV)(d:Option Nat)(op:Op):Prop:=match g with
 | .yes=>Jf P E N (Aa P E.G st op) st (fun v st'=>He P E N ds kp tail rest (st'.put d v) K) kp
 | .no=>He P E N ds kp tail rest (st.put d (.r (.tuple #[]))) K
 | .bad=>False
 | .ask b w=>(b=w->Jf P E N (Aa P E.G st op) st (fun v st'=>He P E N ds kp tail rest (st'.put d v) K) kp)/\(b= !w->He P E N ds kp tail rest (st.put d (.r (.tuple #[]))) K)
def QG (r:SR)(d:Option Nat):Prop:=Jf P E N r st (fun v st'=>He P E N ds kp tail rest (st'.put d v) K) kp
def WH (g:Nat)(xs:List AV)(d:Option Nat):Prop:=CallG P E N g xs st (fun v st'=>He P E N ds kp tail rest (st'.put d v) K) kp
@[go_sem] theorem ex_nil:ex P E N ds kp [] st K=K st:=rfl
@[go_sem] theorem A1s (d:Option Nat) (op:Op) (t:TypeId) (p:String) (af:Array Edge) (g:Option (Nat×Bool)):ex P E N ds kp (⟨d,op,t,p,af,g⟩::rest) st K=Oi P E N ds kp rest st K (Jn ds st g) d op:=rfl
@[go_sem] theorem A1l (d:Option Nat) (op:Op):Oi P E N ds kp rest st K .yes d op=XW P E N ds kp rest st K (Aa P E.G st op) d:=rfl
@[go_sem] theorem goG_no (d:Option Nat) (op:Op):Oi P E N ds kp rest st K .no d op=ex P E N ds kp rest (st.put d (.r (.tuple #[]))) K:=rfl
@[go_sem] theorem goG_tt (d:Option Nat) (op:Op):Oi P E N ds kp rest st K (.ask true true) d op=XW P E N ds kp rest st K (Aa P E.G st op) d:=by simp[Oi,XW]
@[go_sem] theorem goG_ff (d:Option Nat) (op:Op):Oi P E N ds kp rest st K (.ask false false) d op=XW P E N ds kp rest st K (Aa P E.G st op) d:=by simp[Oi,XW]
@[go_sem] theorem goG_tf (d:Option Nat) (op:Op):Oi P E N ds kp rest st K (.ask true false) d op=ex P E N ds kp rest (st.put d (.r (.tuple #[]))) K:=by simp[Oi]
@[go_sem] theorem goG_ft (d:Option Nat) (op:Op):Oi P E N ds kp rest st K (.ask false true) d op=ex P E N ds kp rest (st.put d (.r (.tuple #[]))) K:=by simp[Oi]
@[go_sem] theorem A1j (d:Option Nat) (v:AV) (s:AS):XW P E N ds kp rest st K (.val v s) d=ex P E N ds kp rest (s.put d v) K:=rfl
@[go_sem] theorem A1I (d:Option Nat) (c:Prop) (v:AV) (s:AS):XW P E N ds kp rest st K (.cond c v s) d=(c/\ex P E N ds kp rest (s.put d v) K):=rfl
@[go_sem] theorem A1J (d:Option Nat) (g:Nat) (xs:List AV):XW P E N ds kp rest st K (.call g xs) d=O9 P E N ds kp rest st K g xs d:=rfl
@[go_sem] theorem A1k (d:Option Nat) (x:AV):XW P E N ds kp rest st K (.pan x) d=kp x st:=rfl
@[go_sem] theorem A1v:He P E N ds kp tail [] st K=ex P E N ds kp tail st K:=rfl
@[go_sem] theorem A1P (d:Option Nat) (op:Op) (t:TypeId) (p:String) (af:Array Edge) (g:Option (Nat×Bool)):He P E N ds kp tail (⟨d,op,t,p,af,g⟩::rest) st K=GD P E N ds kp tail rest st K (Jn ds st g) d op:=rfl
@[go_sem] theorem A1M (d:Option Nat) (op:Op):GD P E N ds kp tail rest st K .yes d op=QG P E N ds kp tail rest st K (Aa P E.G st op) d:=rfl
@[go_sem] theorem A1p (d:Option Nat) (op:Op):GD P E N ds kp tail rest st K .no d op=He P E N ds kp tail rest (st.put d (.r (.tuple #[]))) K:=rfl
@[go_sem] theorem A1n (d:Option Nat) (op:Op):GD P E N ds kp tail rest st K (.ask true true) d op=QG P E N ds kp tail rest st K (Aa P E.G st op) d:=by simp[GD,QG]
@[go_sem] theorem A1r (d:Option Nat) (op:Op):GD P E N ds kp tail rest st K (.ask false false) d op=QG P E N ds kp tail rest st K (Aa P E.G st op) d:=by simp[GD,QG]
@[go_sem] theorem A1o (d:Option Nat) (op:Op):GD P E N ds kp tail rest st K (.ask true false) d op=He P E N ds kp tail rest (st.put d (.r (.tuple #[]))) K:=by simp[GD]
@[go_sem] theorem A1q (d:Option Nat) (op:Op):GD P E N ds kp tail rest st K (.ask false true) d op=He P E N ds kp tail rest (st.put d (.r (.tuple #[]))) K:=by simp[GD]
@[go_sem] theorem A1K (d:Option Nat) (v:AV) (s:AS):QG P E N ds kp tail rest st K (.val v s) d=He P E N ds kp tail rest (s.put d v) K:=rfl
@[go_sem] theorem A0G (d:Option Nat) (c:Prop) (v:AV) (s:AS):QG P E N ds kp tail rest st K (.cond c v s) d=(c/\He P E N ds kp tail rest (s.put d v) K):=rfl
@[go_sem] theorem A0H (d:Option Nat) (g:Nat) (xs:List AV):QG P E N ds kp tail rest st K (.call g xs) d=WH P E N ds kp tail rest st K g xs d:=rfl
end
section
variable (P:Program) (G:List (Nat×List Value)) (st:AS)
@[go_sem] theorem Zm (x:Operand):Aa P G st (.move x)=Iu st (ev st G x):=rfl
@[go_sem] theorem Y5 (x:Operand):Aa P G st (.assign x)=Iu st (ev st G x):=rfl
def YA:Option AV->Option AV->Option AV->Option AV
 |some (.r (.bool c)),some a,some b=>some (OV c a b)
 |_,_,_=>none
@[go_sem] theorem Zl (c a b:Operand):Aa P G st (.pick c a b)=Iu st (YA (ev st G c) (ev st G a) (ev st G b)):=rfl
def YD:Option TY->Option AV->Option AV
 |some y,some x=>match Hj st x with
  |some (c,off)=>KI y c off
  |none=>none
 |_,_=>none
@[go_sem] theorem Zn (T:TypeId) (x:Operand):Aa P G st (.load T x)=Iu st (YD st (AK P T) (ev st G x)):=rfl
def A0j:Option AV->Option AV
 |some (.re t c off)=>some (.re t c off)
 |some (.p n i off)=>some (.p n i off)
 |some (.fn f c)=>some (.fn f c)
 |_=>none
@[go_sem] theorem Wg (x:Operand):Aa P G st (.nilCheck x)=Iu st (A0j (ev st G x)):=rfl
def ZS (op:BinOp)(T:TypeId)(nl:Bool)(t:Option TY)(a b:Option AV):Option AV:=match nl with
 |true=>(match t,a with
  |some ty,some (.r v)=>UJ op ty v
  |_,_=>none)
 |false=>(match t,a,b with
  |some _,some (.agg a),some (.agg b)=>eqA P op T a b
  |some ty,some a,some b=>Ui op ty a b
  |_,_,_=>none)
def YN (op:BinOp)(T:TypeId):Option TY->Option AV->Option AV->Option AV
 |some _,some (.agg a),some (.agg b)=>eqA P op T a b
 |some ty,some a,some b=>Ui op ty a b
 |_,_,_=>none
def A1V (op:BinOp):Option TY->Option AV->Option AV
 |some ty,some (.r v)=>UJ op ty v
 |_,_=>none
@[go_sem] theorem binO_f (op:BinOp) (T:TypeId) (t:Option TY) (a b:Option AV):ZS P op T false t a b=YN P op T t a b:=rfl
@[go_sem] theorem binO_t (op:BinOp) (T:TypeId) (t:Option TY) (a b:Option AV):ZS P op T true t a b=A1V op t a:=rfl
@[go_sem] theorem Zr (t:Nat):FN (.tmp t)=false:=rfl
@[go_sem] theorem XP (t:Nat):FN (.global t)=false:=rfl
@[go_sem] theorem Z8 (t:Nat):FN (.func t)=false:=rfl
@[go_sem] theorem Zu:FN (.const .nilIface)=true:=rfl
@[go_sem] theorem Zw (k:IntKind) (n:Int):FN (.const (.int k n))=false:=rfl
@[go_sem] theorem Z9 (b:Bool):FN (.const (.bool b))=false:=rfl
@[go_sem] theorem Zs (b:ByteArray):FN (.const (.string b))=false:=rfl
@[go_sem] theorem YH (a:Option Addr) (n m:Nat):FN (.const (.slice a n m))=false:=rfl
@[go_sem] theorem Zt (a:Option Addr):FN (.const (.pointer a))=false:=rfl
@[go_sem] theorem Zv (a:Option Nat):FN (.const (.map a))=false:=rfl
@[go_sem] theorem A0U (op:BinOp) (T T':TypeId) (x y:Operand):Aa P G st (.binOp op T x y T')=Iu st (ZS P op T (FN y) (AK P T) (ev st G x) (ev st G y)):=rfl
def unO (op:UnOp):Option AV->Option AV
 |some a=>unA op a
 |none=>none
@[go_sem] theorem A1a (op:UnOp) (T:TypeId) (x:Operand):Aa P G st (.unOp op T x)=Iu st (unO op (ev st G x)):=rfl
def cvO:Option TY->Option TY->Option AV->Option AV
 |some s,some d,some x=>cvA P st s d x
 |_,_,_=>none
@[go_sem] theorem Wv (s d:TypeId) (x:Operand):Aa P G st (.convert s d x)=Iu st (cvO P st (AK P s) (AK P d) (ev st G x)):=rfl
def slO:Option TY->Option AV->Option (Option AV)->Option (Option AV)->Option AV
 |some y,some x,some lo,some hi=>Yf P st y lo hi x
 |_,_,_,_=>none
@[go_sem] theorem YZ (T:TypeId) (x:Operand) (lo hi:Option Operand):Aa P G st (.slice T x lo hi none)=Iu st (slO P st (AK P T) (ev st G x) (DQ st G lo) (DQ st G hi)):=rfl
def A0W:Option TY->Option AV->Option (Option AV)->Option AV->Option AV->Option AV
 |some y,some x,some lo,some hi,some m=>VB P st y lo hi m x
 |_,_,_,_,_=>none
@[go_sem] theorem Y3 (T:TypeId) (x:Operand) (lo:Option Operand) (hi m:Operand):Aa P G st (.slice T x lo (some hi) (some m))=Iu st (A0W P st (AK P T) (ev st G x) (DQ st G lo) (ev st G hi) (ev st G m)):=rfl
def A1S:Option (List AV)->Option TypeId->Option AV
 |some [x],some T=>match AK P T with
  |some y=>WE x y.k
  |none=>none
 |_,_=>none
@[go_sem] theorem A0Q (args:Array Operand) (ats:Array TypeId):Aa P G st (.call {callee:= .builtin .max,args:=args,argTypes:=ats})=Iu st (Vb (FV st G args.toList)):=rfl
@[go_sem] theorem A0S (args:Array Operand) (ats:Array TypeId):Aa P G st (.call {callee:= .builtin .cap,args:=args,argTypes:=ats})=Iu st (A1S P (FV st G args.toList) ats[0]?):=rfl
def faO (f:Nat):Option TY->Option AV->Option AV
 |some ⟨.struct fs,_,_,_⟩,some x=>match fs[f]? with
  |some (off,sz)=>if sz=0 then none else Jh off x
  |none=>none
 |_,_=>none
@[go_sem] theorem V8 (T:TypeId) (x:Operand) (f:Nat):Aa P G st (.fieldAddr T x f)=Iu st (faO f (AK P T) (ev st G x)):=rfl
def iaO:Option TY->Option AV->Option AV->Option AV
 |some y,some x,some (.r (.int _ i))=>ixA st P y i x
 |_,_,_=>none
@[go_sem] theorem V7 (T:TypeId) (x i:Operand):Aa P G st (.indexAddr T x i)=Iu st (iaO P st (AK P T) (ev st G x) (ev st G i)):=rfl
def ivO:Option TY->Option AV->Option AV->Option AV
 |some y,some x,some (.r (.int _ i))=>ixV P y i x
 |_,_,_=>none
@[go_sem] theorem Ya (T:TypeId) (x i:Operand):Aa P G st (.index T x i)=Iu st (ivO P (AK P T) (ev st G x) (ev st G i)):=rfl
def exO (i:Nat):Option AV->Option AV
 |some (.tup c)=>c[i]?
 |_=>none
@[go_sem] theorem Wu (t:Operand) (i:Nat):Aa P G st (.extract t i)=Iu st (exO i (ev st G t)):=rfl
def A0m:Option (List AV)->Option TypeId->Option AV
 |some [x],some T=>match AK P T with
  |some y=>Vg st x y.k
  |none=>none
 |_,_=>none
def WN:Option TY->Option (List (Nat×AV))->Option AV
 |some ⟨.struct fs,_,_,some z⟩,some l=>(JA (fs[·]?) (z.map .r) l).map .agg
 |some ⟨.arr _ e,_,_,some z⟩,some l=>match AK P e with
  |some ye=>(JA (fun i=>some (i * ye.size,ye.size)) (z.map .r) l).map .agg
  |none=>none
 |_,_=>none
@[go_sem] theorem Yc (T:TypeId) (ps:Array (Nat×Operand)):Aa P G st (.build T ps)=Iu st (WN P (AK P T) (GI st G ps.toList)):=rfl
def A0x (T:TypeId):Option TY->Option AV->Option AV
 |some ⟨.ifc,_,_,_⟩,_=>none
 |some _,some x=>some (.ifc T x)
 |_,_=>none
@[go_sem] theorem R7 (T:TypeId) (x:Operand):Aa P G st (.makeInterface T x)=Iu st (A0x T (AK P T) (ev st G x)):=rfl
@[go_sem] theorem A0R (args:Array Operand) (ats:Array TypeId):Aa P G st (.call {callee:= .builtin .len,args:=args,argTypes:=ats})=Iu st (A0m P st (FV st G args.toList) ats[0]?):=rfl
@[go_sem] theorem YX (f:Operand) (args:Array Operand) (ats:Array TypeId):Aa P G st (.call {callee:= .value f,args:=args,argTypes:=ats})=X9 (ev st G f) (FV st G args.toList):=rfl
@[go_sem] theorem Y6 (args:Array Operand) (ats:Array TypeId):Aa P G st (.call {callee:= .builtin .append,args:=args,argTypes:=ats})=Up P G st (.call {callee:= .builtin .append,args:=args,argTypes:=ats}) (D6 P G st (.call {callee:= .builtin .append,args:=args,argTypes:=ats})):=rfl
@[go_sem] theorem Yb (args:Array Operand) (ats:Array TypeId):Aa P G st (.call {callee:= .builtin .clear,args:=args,argTypes:=ats})=OX (D6 P G st (.call {callee:= .builtin .clear,args:=args,argTypes:=ats})):=rfl
@[go_sem] theorem A0T (T:TypeId) (x:Operand):Aa P G st (.box T x)=OX (D6 P G st (.box T x)):=rfl
@[go_sem] theorem Yd (T:TypeId):Aa P G st (.alloc T)=OX (D6 P G st (.alloc T)):=rfl
@[go_sem] theorem YY (T:TypeId) (x v:Operand):Aa P G st (.store T x v)=Up P G st (.store T x v) (D6 P G st (.store T x v)):=rfl
@[go_sem] theorem Wt (T:TypeId) (r:Option Operand):Aa P G st (.makeMap T r)=OX (FY P G st (.makeMap T r)):=rfl
@[go_sem] theorem V5 (T:TypeId) (m i v:Operand):Aa P G st (.mapUpdate T m i v)=OX (FY P G st (.mapUpdate T m i v)):=rfl
@[go_sem] theorem Y4 (T:TypeId) (x i:Operand):Aa P G st (.lookup T x i true)=Iu st (Q3 P st (AK P T) (ev st G x) (ev st G i)):=rfl
@[go_sem] theorem Un (T:TypeId) (n:Nat) (ps:Array (Nat×Operand)):Aa P G st (.buildSlice T n ps)=Up P G st (.buildSlice T n ps) (D6 P G st (.buildSlice T n ps)):=rfl
@[go_sem] theorem A0h (op:Op) (c:Prop) (v:AV) (s:AS):Up P G st op (some (c,v,s))= .cond c v s:=rfl
@[go_sem] theorem A0i (op:Op):Up P G st op none=OX (FY P G st op):=rfl
@[go_sem] theorem V6 (T:TypeId) (l c:Operand):Aa P G st (.makeSlice T l c)=OX (D6 P G st (.makeSlice T l c)):=rfl
@[go_sem] theorem Y_ (x:Operand):Aa P G st (.panic x)=Yz (ev st G x):=rfl
attribute [go_sem] JS ren renL AA KG A0W VB A1S WE WN A0x eqA Om ZJ eqC YA YD A0j YN A1V UJ unO cvO slO faO iaO ivO exO A0m Iu OX X9 Yz D6 Jn ev FV lk AS.put Br C4 Ui A0o shA XU V4 Hj KI Jh ixA ixV Vg Hn OV Mt TK.agg unA DQ D1 AV.okPart AV.cells AV.cell1 splice JF NI MK rm NA JA GI Xr Yf cvA XA Vb Z2 FY R6 SH Za Z1 Q3 Vd lkk Yu unU F0 IN MJ IM EV Sf QT Yg WQ Ye Zp BH Z6 ZL F9 JJ
end
section
variable {P:Program} {E:Env} {N:Nat} {st:AS} {AQ:AExit->AS->Prop}
theorem ZW {id:Nat}{ops:Array Oper}{ds:List (Option Nat)}{l:List Oper}(hd:DS N ops=true)(hds:Bf ops=ds)(hl:ops.toList=l)
  (h: ∀(K:AS->Prop)(kp:AV->AS->Prop),(∀st',AQ .normal st'->K st')->(∀x st',AQ (.pan x) st'->kp x st')->ex P E N ds kp l st K):AWP P E N (.region id ops false) st AQ:=
 SM hd hds hl (Eb (h _ _ (fun _ h=>h) (fun _ _ h=>h)))
theorem SN {id:Nat}{ops:Array Oper}{ds:List (Option Nat)}{l l':List Oper}(hm:P.follows .mixedOrders=true)(n:Nat)(ord:List Nat)(hB:Ex ops n ord=true)(hd:DS N ops=true)(hg:((B3 ops ord).all fun o=>Uq o.op)=true)
  (hds:Bf ops=ds) (ht:ops.toList.drop n=l') (hh:B3 ops ord=l) (h: ∀(K:AS->Prop)(kp:AV->AS->Prop),(∀st',AQ .normal st'->K st')->(∀x st',AQ (.pan x) st'->kp x st')->He P E N ds kp l' l st K):AWP P E N (.region id ops true) st AQ:=
 WU hm n ord hB hd hds ht hh (F7 (by rw[<-hh];exact hg) (h _ _ (fun _ h=>h) (fun _ _ h=>h)))
variable {ds:List (Option Nat)} {kp:AV->AS->Prop} {tail rest:List Oper} {K:AS->Prop} {d:Option Nat}
theorem WG {f:Nat}{xs ys:List AV}{res res':AV}{os:List (Nat×Nd)}{m:Nat}{st':AS}(hc:Con P E.G f ys [] 0 (Is res os m) No)(hb:C0 st xs=some ys)(hp:PT res)(hp': ∀p ∈ os,FZ p.2)(hr:ren (· +st.n) res=res')(hs:{st with o:=KG st.n os++st.o,n:=st.n+m}=st')
  (hk:ex P E N ds kp rest (st'.put d res') K):O9 P E N ds kp rest st K f xs d:=
 (Mq hc hb hp hp' (by subst hr hs;exact hk)).v
theorem Ek (σ:List Nat){f:Nat}{xs ys:List AV}{oc os:List (Nat×Nd)}{res res':AV}{m:Nat}{st':AS}(hc:Con P E.G f ys oc σ.length (Is res os m) No)(hb:Gl σ st xs=some ys)(ho:AY σ st.o oc)(hall: ∀i,i<σ.length-> ∃nd,lk oc i=some nd)
  (hlt: ∀i ∈ σ,i<st.n) (hnd:σ.Nodup) (hbig:st.n≤1000000000) (hp:PT res) (hp': ∀p ∈ os,FZ p.2) (hr:ren (fw σ st.n) res=res') (hs:{st with o:=DA (fw σ st.n) os++N_ σ st.o,n:=st.n+(m - σ.length)}=st') (hk:ex P E N ds kp rest (st'.put d res') K):O9 P E N ds kp rest st K f xs d:=
 (Oy hc hb ho hall hlt hnd hbig (fun y o n ⟨h1,h2,h3⟩=>by subst h1 h2 h3 hr hs;exact⟨hp,hp',hk⟩) (fun _ _ _ h=>h.elim)).v
theorem A1W {id:Nat}{ops:Array Oper}(hd:DS N ops=true)(h: ∀(K:AS->Prop)(kp:AV->AS->Prop),(∀st',AQ .normal st'->K st')->(∀x st',AQ (.pan x) st'->kp x st')->ex P E N (Bf ops) kp ops.toList st K):AWP P E N (.region id ops false) st AQ:=
 ZW hd rfl rfl h
theorem Xn {f:Nat}{xs ys:List AV}{res:AV}{os:List (Nat×Nd)}{m:Nat}(hc:Con P E.G f ys [] 0 (Is res os m) No)(hb:C0 st xs=some ys)(hp:PT res)(hq: ∀p ∈ os,FZ p.2)
 (hk:ex P E N ds kp rest ({st with o:=KG st.n os++st.o,n:=st.n+m}.put d (ren (· +st.n) res)) K):O9 P E N ds kp rest st K f xs d:=WG hc hb hp hq rfl rfl hk
theorem Xo {f:Nat}{xs ys:List AV}{res:AV}{os:List (Nat×Nd)}{m:Nat}(hc:Con P E.G f ys [] 0 (Is res os m) No)(hb:C0 st xs=some ys)(hp:PT res)(hq: ∀p ∈ os,FZ p.2)
 (hk:He P E N ds kp tail rest ({st with o:=KG st.n os++st.o,n:=st.n+m}.put d (ren (· +st.n) res)) K):WH P E N ds kp tail rest st K f xs d:=Mq hc hb hp hq hk
@[go_sem] theorem loA_ok {h:Nat} {k:IntKind} {l:Int} (h1:0≤l) (h2:l≤h):YE h (some (.r (.int k l)))=some l.toNat:=by simp[YE,h1,h2]
@[go_sem] theorem hiA_ok {len:Nat} {k:IntKind} {h:Int} (h1:0≤h) (h2:h≤len):YJ len (some (.r (.int k h)))=some h.toNat:=by simp[YJ,h1,h2]
@[go_sem] theorem A0k (h:Nat):YE h none=some 0:=rfl
@[go_sem] theorem A0y (h:Nat):YJ h none=some h:=rfl
@[go_sem] theorem A1e (k:Nat):((k:Int)+1).toNat=k+1:=by omega
@[go_sem] theorem A1f (k:Nat):((0:Int)≤(k:Int)+1)=True:=aK (by omega)
@[go_sem] theorem Wr {α β:Type} (f:α->β) (l:List α):List.take l.length (l.map f)=l.map f:=aN (by simp)
@[go_sem] theorem ite_le {α:Type} {a b:Nat} {x y:α} (h:a≤b):(if a≤b then x else y)=x:=if_pos h
theorem pt_r (v:Value):PT (.r v)=True:=aK (.r v)
theorem pt_s (n lo len:Nat):PT (.s n lo len)=True:=aK (.s n lo len)
theorem A0Z (k:Nat)(els:List (List AV)):PT (.ro true k els)= ∀e ∈ els,∀x ∈ e,PT x:=propext ⟨fun h=>by cases h;assumption,.ro k els⟩
theorem Ym (c:List AV):PT (.tup c)= ∀x ∈ c,PT x:=propext ⟨fun h=>by cases h;assumption,.tup c⟩
theorem Yn (c:List AV):PT (.agg c)= ∀x ∈ c,PT x:=propext ⟨fun h=>by cases h;assumption,.agg c⟩
theorem RD {rs:List ResultVar}{Q R:AV->List (Nat×Nd)->Nat->Prop}{l:List AV}{y:AV}{o:List (Nat×Nd)}{n:Nat}(hl:Lf P st rs=some l)(hq:Q y o n)(he:N4 E N st (A8 l) o n y):DU P E N rs Q R .ret st:=by
 simp only[DU,hl];exact⟨y,o,n,hq,he⟩
theorem Wy {rs:List ResultVar}{R:AV->List (Nat×Nd)->Nat->Prop}{l:List AV}{y:AV}{o:List (Nat×Nd)}{n:Nat}(hl:Lf P st rs=some l)(he:N4 E N st (A8 l) o n y):DU P E N rs (Is y o n) R .ret st:=RD hl ⟨rfl,rfl,rfl⟩ he
theorem Con.args {G:List (Nat×List Value)}{f:Nat}{xs xs':List AV}{o:List (Nat×Nd)}{n:Nat}{Q R:AV->List (Nat×Nd)->Nat->Prop}(hc:Con P G f xs' o n Q R)(h: ∀w z th vs,Reps w z th xs vs->Reps w z th xs' vs):Con P G f xs o n Q R:=
 ⟨hc.1,fun w th z own vs ho hm hr=>hc.2 w th z own vs ho hm (h _ _ _ _ hr)⟩
theorem VY {w:World}{z:AO}{th:List NLoc}(t:Bool)(k:Nat){v:Value}(h:Rep w z th (.r (.slice none 0 0)) v):Rep w z th (.ro t k []) v:=by
 rw[show v= .slice none 0 0 from h.r_inv];exact .nil _ _ _ _ _
theorem Rg {f:Nat}{G:List (Nat×List Value)}{xs:List AV}{v:Value}(hc:Con P G f xs [] 0 (Is (.r v) [] 0) No)(w:World)(vs:List Value)(hr:Reps w (fun _ b=>b<w.heap.size) [] xs vs)
  (hG: ∀g cs,(g,cs) ∈ G->g<w.heap.size/\ ∀(j:Nat) u,cs[j]?=some u->w.cell? ⟨g,j,none⟩=some u):Calls P f vs.toArray w (fun e w'=>e= .returned v/\Go.RowKit.Below w.heap.size w w'):=by
 have hm:Mem ⟨w,fun _=>False,fun _ b=>b<w.heap.size,G,[],[]⟩ [] 0 [] (fun _ b=>b<w.heap.size) w:=
  ⟨rfl,fun i nd hi=>by simp[lk] at hi,fun i j x y L M hi=>by simp[lk] at hi,fun _ _ h=>h,Nat.le_refl _,fun _ _ _=>rfl,fun _ _ h=>h,fun b h=> .inl h,fun b h=>h,hG,fun i L hi=>by simp at hi,Sys.refl w,⟨fun _ _=>False,fun i T k els op L hi=>by simp[lk] at hi,fun _ _ h=>h.elim,fun _ _ h=>h.elim,fun _ _ h=>h.elim,fun _ _ _ h=>h.elim,fun i nd L j hi=>by simp[lk] at hi⟩⟩
 refine(hc.2 w [] _ (fun _=>False) vs (fun b=>by simp[lk]) hm hr).mono ?_;rintro e w' ⟨u,y,o',n',th',z',hh,hm',hv⟩
 rcases hh with ⟨rfl,rfl,rfl,rfl⟩ |⟨_,h⟩
 ·have:=hv.r_inv;subst this
  exact⟨rfl,hm'.sys.1,hm'.sys.2.1,hm'.sys.2.2,hm'.grow,fun k hk=>hm'.frame k hk (fun h=>h)⟩
 ·exact h.elim
end
class PTf {α:Type} (f:α->List AV):Prop where
 pt: ∀a,∀x ∈ f a,PT x
theorem Da {α:Type}(f:α->List AV)[h:PTf f](l:List α): ∀e ∈ l.map f,∀x ∈ e,PT x:=by
 intro e he x hx;obtain⟨a,_,rfl⟩:=cI.1 he;exact h.pt a x hx
@[simp] theorem Tu (a:UInt8):(∀x,x ∈ AC a->PT x)=True:=aK (by intro x hx;simp[AC] at hx;subst hx;exact .r _)
instance:PTf AC:=⟨fun a=>of_eq_true (Tu a)⟩
attribute [simp] pt_r pt_s A0Z Ym Yn FZ
@[go_sem] theorem Zi {α β γ:Type} (f:α->β) (g:β->γ) (l:List α):List.take l.length ((l.map f).map g)=(l.map f).map g:=aN (by simp)
@[go_sem] theorem Zk {α β:Type} (f:α->β) (l:List α) (a:β):List.take (l.length+1) (l.map f++[a])=l.map f++[a]:=aN (by simp)
@[go_sem] theorem Zj {α β:Type} (f:α->β) (l:List α) (a b:β):List.take (l.length+2) (l.map f++[a,b])=l.map f++[a,b]:=aN (by simp)
@[go_sem] theorem YU {α β γ:Type} (f:α->β) (g:γ->β) (l:List α) (a:β) (r:List γ):List.take (l.length+1+r.length) (l.map f++[a]++r.map g)=l.map f++[a]++r.map g:=aN (by simp;omega)
attribute [go_sem] Ur Bf C0 FE Kq Lf rvA List.append_eq List.toList_toArray B3 List.filterMap_cons List.filterMap_nil
attribute [go_sem] Nat.le_refl Int.le_refl Int.cast_ofNat_Int Int.toNat_zero and_self and_true true_and true_imp_iff false_imp_iff implies_true Bool.not_true Bool.not_false cond_true cond_false decide_true decide_false beq_self_eq_true Option.map_some Option.map_none Option.bind_some List.getElem?_map List.getElem?_cons_zero List.getElem?_cons_succ List.length_cons List.length_nil List.length_map List.length_append Int.toNat_natCast Int.natCast_nonneg List.getElem?_toArray List.map_cons List.map_nil List.all_cons List.all_nil Bool.and_self Bool.or_false Bool.or_true Bool.false_or Bool.true_or Bool.and_false Bool.false_and Bool.and_true Bool.true_and List.nil_append List.cons_append List.append_nil List.drop_nil List.take_nil Nat.zero_add Nat.add_zero Nat.sub_zero List.drop_zero List.take_succ_cons List.take_zero List.drop_succ_cons
attribute [go_sem ↓] reduceIte
attribute [go_sem] Int.reduceToNat Int.reduceLE Int.reduceLT Int.reduceGT Int.reduceGE Int.reduceAdd Int.reduceSub Int.reduceMul Int.reduceNeg Int.reduceBEq Int.reduceBNe Int.reduceEq Int.reduceNe reduceCtorEq Nat.reduceEqDiff Nat.reduceAdd Nat.reduceSub Nat.reduceMul Nat.reduceLT Nat.reduceLeDiff
structure ExtX (X:Nat->Prop)(w w':World):Prop where
 size:w.heap.size≤w'.heap.size
 same: ∀b,b<w.heap.size-> ¬X b->w'.heap[b]?=w.heap[b]?
 sys:Sys w w'
theorem ExtX.refl (X:Nat->Prop)(w:World):ExtX X w w:=⟨Nat.le_refl _,fun _ _ _=>rfl,Sys.refl w⟩
theorem ExtX.trans {X:Nat->Prop}{a b c:World}(h:ExtX X a b)(h':ExtX X b c):ExtX X a c:=⟨bL h.size h'.size,fun x hx hn=>(h'.same x (aY hx h.size) hn).trans (h.same x hx hn),h.sys.trans h'.sys⟩
section
variable {P:Program} {ops:Array Oper} {Q:Exit->Act->World->Prop} {n:Nat} {L:Array Bool->Act->World->Prop} {X:Nat->Prop}
def Uk (P:Program)(ops:Array Oper)(Q:Exit->Act->World->Prop)(n:Nat)(X:Nat->Prop)(L:Array Bool->Act->World->Prop):Nat->Array Bool->Act->World->Prop
 |0,s,a,w=>L s a w
 |f+1,s,a,w=>Region.ready .any ops s≠[]/\ ∀i ∈ Region.ready .any ops s,i<n/\wpOp P ops Q i (fun a' w'=>ExtX X w w'/\Uk P ops Q n X L f (s.setIfInBounds i true) a' w') a w
theorem Qm {g:Nat}(hL: ∀s a w,L s a w->wpAny P .any ops Q g s a w): ∀(f:Nat)(s:Array Bool)(a:Act)(w:World),Uk P ops Q n X L f s a w->wpAny P .any ops Q (f+g) s a w
 |0,s,a,w,h=>by rw[Nat.zero_add];exact hL _ _ _ h
 |f+1,s,a,w,h=>by
  rw[show f+1+g=(f+g)+1 by omega];exact⟨fun h0=>absurd h0 h.1,fun i hi=>wpOp_mono (fun a' w' h'=>Qm hL f _ a' w' h'.2) (h.2 i hi).2⟩
theorem PB {oi:Oper}{v:Value}{a:Act}{w w':World}(h:YieldsIf P ops (ExtX X w) oi v a)(e:ExtX X w w'):YieldsIf P ops (ExtX X w') oi v a:=
 h.imp (fun⟨h1,h2⟩=>⟨h1,fun x hx=>h2 x (e.trans hx)⟩) id
theorem Mz {i:Nat}{oi:Oper}{v:Value}(hi:ops[i]?=some oi)(hsel: ∀(j:Nat)(o:Oper) cs b,ops[j]?=some o->o.op≠ .select cs b)
  (hQ: ∀c a w,Q (.panic c) (a.put oi.dst v) w->Q (.panic c) a w) (hlt: ∀s,HeadInv .any ops n s-> ∀i,i<n->s.getD i true=false-> ∀j ∈ Region.ready .any ops s,j<n) (hin:i<n)
  (hdone: ∀s a w,L s a w-> ∀j ∈ Region.ready .any ops s,n≤j): ∀(f:Nat)(s:Array Bool)(a:Act)(w:World),HeadInv .any ops n s->
   (∀j oj,ops[j]?=some oj->j≠i->s.getD j true=false->(∀e ∈ oj.after,Region.binds .any e=true->e.on≠i)->oi.apart ops oj=true)->
   i ∈ Region.ready .any ops s->YieldsIf P ops (ExtX X w) oi v a->Uk P ops Q n X L f (s.setIfInBounds i true) (a.put oi.dst v) w->Uk P ops Q n X L (f+1) s a w:=by
 intro f
 induction f with
 |zero=>
  intro s a w inv _ hr hy H;refine⟨fun h=>(by rw[h] at hr;cases hr),fun j hj=>?_⟩;have hjn:j<n:=hlt s inv i hin (cO.1 hr).1 j hj
  by_cases hji:j=i
  ·subst hji;exact⟨hjn,hy.wpOp hi (ExtX.refl X w) ⟨ExtX.refl X w,H⟩⟩
  ·have:=hdone _ _ _ H j (ready_mono hj hji)
   omega
 |succ f ih=>
  intro s a w inv hfree hr hy H;refine⟨fun h=>(by rw[h] at hr;cases hr),fun j hj=>?_⟩;have hjn:j<n:=hlt s inv i hin (cO.1 hr).1 j hj;refine⟨hjn,?_⟩
  by_cases hji:j=i
  ·subst hji;exact hy.wpOp hi (ExtX.refl X w) ⟨ExtX.refl X w,H⟩
  ·have h1:=(H.2 j (ready_mono hj hji)).2
   obtain⟨hjun,oj,hoj,hall⟩:=cO.1 hj;have hiun:=(cO.1 hr).1
   have hnot: ∀e ∈ oj.after,Region.binds .any e=true->e.on≠i:=fun e he hb heq=>by
    have h2:=hall e he hb;rw[heq,getD_both hiun] at h2;cases h2
   have h2:=wpOp_putIf hoj (hfree j oj hoj hji hjun hnot) (fun cs b=>hsel i oi cs b hi) (fun cs b=>hsel j oj cs b hoj) hQ hy h1;refine wpOp_mono (fun a' w' h3=>⟨h3.2.1,ih _ a' w' (inv.set hj hjn) (fun k ok hk hki hun hno=>hfree k ok hk hki ?_ hno) (ready_mono hr (cL hji)) (PB h3.1 h3.2.1) ?_⟩) h2
   ·by_cases hjk:j=k
    ·subst hjk;exact hjun
    ·rwa [getD_set_ne true hjk] at hun
   ·rw[fX _ _ hji]
    exact h3.2.2
end
def hid (ws:List Nat)(st:AS):AS:={st with o:=N_ ws st.o}
def VQ (ws:List Nat)(st:AS):Bool:=ws.all fun i=>(lk st.o i).isSome
def NS (ws ts:List Nat):Bool:=ts.all fun t=>ws.contains t
def Je (P:Program)(E:Env)(N:Nat)(ws ts:List Nat)(r:SR)(st:AS)(k kp:AV->AS->Prop):Prop:=match r with
 | .cond c v st'=>(NS ws ts=true/\c)/\k v st'
 | .call g xs=> ∃ts,(∀t ∈ ts,t ∈ ws)/\CallT P E N g xs st ts k kp
 |_=>False
def OS (r:SR)(st:AS)(k:AV->AS->Prop):Prop:=match r with
 | .val v _=>k v st
 |_=>False
def IY (P:Program)(E:Env)(N:Nat)(ws:List Nat)(ds:List (Option Nat))(kp:AV->AS->Prop)(tail:List Oper):List Oper->AS->(AS->Prop)->Prop
 | [],st,K=>ex P E N ds kp tail st K
 |o::rest,st,K=>match Jn ds st o.guard with
  | .yes=>match Dm o.op with
    |true=>VQ ws st=true/\OS (Aa P E.G (hid ws st) o.op) st (fun v st'=>IY P E N ws ds kp tail rest (st'.put o.dst v) K)
    |false=>Je P E N ws (G_ st E.G o.op) (Aa P E.G st o.op) st (fun v st'=>IY P E N ws ds kp tail rest (st'.put o.dst v) K) kp
  | .no=>IY P E N ws ds kp tail rest (st.put o.dst (.r (.tuple #[]))) K
  | .bad=>False
  | .ask b w=>(b=w->match Dm o.op with
    |true=>VQ ws st=true/\OS (Aa P E.G (hid ws st) o.op) st (fun v st'=>IY P E N ws ds kp tail rest (st'.put o.dst v) K)
    |false=>Je P E N ws (G_ st E.G o.op) (Aa P E.G st o.op) st (fun v st'=>IY P E N ws ds kp tail rest (st'.put o.dst v) K) kp)/\(b= !w->IY P E N ws ds kp tail rest (st.put o.dst (.r (.tuple #[]))) K)
section
variable {P:Program} {E:Env} {N:Nat} {st:AS} {th:List NLoc} {z:AO} {a:Act} {w:World}
theorem C3 {o:Oper}{k:AV->AS->Prop}{b:Bool}{ts:List Nat}{next:Act->World->Prop}{Q:Exit->Act->World->Prop}(he:OF P E N o a w th ts st.m k b)(hd: ∀i,o.dst=some i->i<N)
  (hn: ∀x st' th' z' a' w',k x st'->Sim E N (st'.put o.dst x) th' z' a' w'->Later th th'->ExtT th ts w w'->next a' w'):o.wp P a w next Q:=by
 obtain⟨v,x,st',th',z',w',hrun,hk,hs,hr,hm,_,hl,hx⟩:=he;unfold Oper.wp
 rcases hrun with hrun |⟨hrun,rfl⟩
 ·rw[hrun,fQ];exact hn x st' th' z' _ w' hk (hs.put hr o.dst hd) hl hx
 ·rw[hrun,Oper.upon_skip];exact hn x st' th' z' _ w' hk (hs.put hr o.dst hd) hl hx
theorem Fd {ws ts:List Nat}{x:Option (Prop×AV×AS)}{k kp:AV->AS->Prop}(h:Je P E N ws ts (OX x) st k kp):NS ws ts=true/\Ap x k:=by
 cases x with
 |none=>exact h.elim
 |some v=>exact⟨h.1.1,h.1.2,h.2⟩
theorem Lg {ws ts:List Nat}{op:Op}{k kp:AV->AS->Prop}(h:Je P E N ws ts (Up P E.G st op (D6 P E.G st op)) st k kp):NS ws ts=true/\Ap (Fs P E.G st op) k:=by rw[RP] at h;exact Fd h
theorem Lh {ws ts:List Nat}{x:Option AV}{k kp:AV->AS->Prop}(h:Je P E N ws ts (Iu st x) st k kp):False:=by
 cases x with
 |none=>exact h
 |some v=>exact h
theorem Ja {ws ts:List Nat}(h:NS ws ts=true): ∀t ∈ ts,t ∈ ws:=by
 intro t ht;simpa using bS.1 h t ht
theorem P_ (h:Sim E N st th z a w){ws:List Nat}(o:Oper){k kp:AV->AS->Prop}(hk:Je P E N ws (G_ st E.G o.op) (Aa P E.G st o.op) st k kp)(hd: ∀i,o.dst=some i->i<N){next:Act->World->Prop}{Q:Exit->Act->World->Prop}
  (hn: ∀x st' th' z' a' w' ts,k x st'->Sim E N (st'.put o.dst x) th' z' a' w'->Later th th'->ExtT th ts w w'->(∀t ∈ ts,t ∈ ws)->next a' w') (hp: ∀x v st' th' z' w',kp x st'->Sim E N st' th' z' a w'->Rep w' z' th' x v->Q (.panic [{v:=v,recovered:=false}]) a w'):o.wp P a w next Q:=by
 obtain⟨dst,op,ty,pos,aft,gd⟩:=o;simp only at hk;cases op
 case call c=>
  obtain⟨callee,args,ats⟩:=c
  cases callee with
  |value f=>
   change Je P E N ws _ (X9 (ev st E.G f) (FV st E.G args.toList)) st k kp at hk;unfold X9 at hk;split at hk
   ·rename_i g caps xs hf hx
    obtain⟨ts,hts,hok,hc⟩:=hk;have hf':=AL h hf;generalize hv:a.eval f=fv at hf'
    cases hf' with
    |fn _ _ _ ys hl hxx=>
     have hr:=(Bo h hx).append ⟨hl,hxx⟩;have hcall:=hc th z a w _ h hr;unfold Oper.wp
     have hrun:(execOp a.eval ⟨dst,.call {callee:= .value f,args:=args,argTypes:=ats},ty,pos,aft,gd⟩).run P w= .ok (.enter g (List.map a.eval args.toList++ys).toArray) w:=by
      simp only[execOp,resolve,hv,Deferred.ofValue,aQ,bT,aL,invoke];rw[ES hok]
      congr 2
      apply gN;simp
     rw[hrun,Oper.upon_enter];refine hcall.mono ?_;rintro e w' ⟨v,x,st',th',z',hh,hm,hs,hrr,hl,hext⟩
     rcases hh with ⟨rfl,hk⟩ |⟨rfl,hk⟩
     ·exact hn x st' th' z' _ w' ts hk (hs.put hrr dst hd) hl hext hts
     ·exact hp x v st' th' z' w' hk hs hrr
   ·exact hk.elim
  |builtin b=>
   cases b
   case append=>
    obtain⟨h1,h2⟩:=Lg hk;exact C3 (K_ h h2) hd (fun x st' th' z' a' w' g1 g2 g3 g4=>hn x st' th' z' a' w' _ g1 g2 g3 g4 (Ja h1))
   case clear=>exact(show False from hk).elim
   all_goals (rw[BZ (by simp) (by simp) (by simp)] at hk;exact(Lh hk).elim)
  |invoke a b=>rw[BZ (by simp) (by simp) (by simp)] at hk;exact(Lh hk).elim
 case panic x=>
  change Je P E N ws _ (Yz (ev st E.G x)) st k kp at hk;unfold Yz at hk
  split at hk<;>exact hk.elim
 case box=>exact C3 (Oq h (Dv _ _ _ _ _ (Fd hk).2)) hd (fun x st' th' z' a' w' g1 g2 g3 g4=>hn x st' th' z' a' w' _ g1 g2 g3 g4 (fun t ht=>by cases ht))
 case alloc=>exact C3 (Jz h (Dv _ _ _ _ _ (Fd hk).2)) hd (fun x st' th' z' a' w' g1 g2 g3 g4=>hn x st' th' z' a' w' _ g1 g2 g3 g4 (fun t ht=>by cases ht))
 case buildSlice=>exact C3 (IQ h (Lg hk).2) hd (fun x st' th' z' a' w' g1 g2 g3 g4=>hn x st' th' z' a' w' _ g1 g2 g3 g4 (fun t ht=>by cases ht))
 case store=>
  obtain⟨h1,h2⟩:=Lg hk;exact C3 (Mc h h2) hd (fun x st' th' z' a' w' g1 g2 g3 g4=>hn x st' th' z' a' w' _ g1 g2 g3 g4 (Ja h1))
 case makeSlice=>exact C3 (FX h (Dv _ _ _ _ _ (Fd hk).2)) hd (fun x st' th' z' a' w' g1 g2 g3 g4=>hn x st' th' z' a' w' _ g1 g2 g3 g4 (fun t ht=>by cases ht))
 case makeMap=>exact C3 (GK h (Fd hk).2) hd (fun x st' th' z' a' w' g1 g2 g3 g4=>hn x st' th' z' a' w' _ g1 g2 g3 g4 (fun t ht=>by cases ht))
 case mapUpdate=>
  obtain⟨h1,h2⟩:=Fd hk;exact C3 (HA h h2) hd (fun x st' th' z' a' w' g1 g2 g3 g4=>hn x st' th' z' a' w' _ g1 g2 g3 g4 (Ja h1))
 all_goals first |exact(show False from hk).elim |exact(Lh (st:=st) (x:=qv P E.G st _) hk).elim
def Xs (ws:List Nat)(th0:List NLoc)(b:Nat):Prop:= ∃i ∈ ws,∃L,th0[i]?=some L/\L.ph=false/\L.b=b
theorem Z7 (h:Sim E N st th z a w){ws:List Nat}{th0:List NLoc}(hl:Later th0 th)(hp:VQ ws st=true){b:Nat}(hb:Kn (hid ws st) th z b): ¬Xs ws th0 b:=by
 rintro⟨i,hi,L,h1,h2,rfl⟩;have hpi:(lk st.o i).isSome=true:=bS.1 hp i hi;obtain⟨nd,hnd⟩:=fT.1 hpi;have hL:=hl i L h1;obtain⟨L',k1,_,k3⟩:=h.mem.nds i nd hnd;rw[hL] at k1;cases k1
 rcases hb with ⟨t,hz⟩ |⟨m,nd',M,g1,g2,g3,g4⟩
 ·exact(k3 h2).2.1 t hz
 ·have g1':lk (N_ ws st.o) m=some nd':=g1
  rw[Oa] at g1';split at g1'
  ·cases g1'
  ·rename_i hm
   have:=h.mem.inj m i nd' nd M L g1' hnd g2 hL g3 h2 g4;subst this;exact hm hi
theorem Sb (h:Sim E N st th z a w)(ws:List Nat):Sim E N (hid ws st) th z a w:=
 h.sub rfl (fun i x hi=>by
  have hi':lk (N_ ws st.o) i=some x:=hi;rw[Oa] at hi';split at hi'
  ·cases hi'
  ·exact hi') (fun _ _ h=>h)
theorem Tg {op:Op}{st':AS}{k:AV->AS->Prop}(hq:Dm op=true)(h:OS (Aa P E.G st' op) st k): ∃v,qv P E.G st' op=some v/\k v st:=by
 have key: ∀x:Option AV,OS (Iu st' x) st k-> ∃v,x=some v/\k v st:=by
  intro x hx
  cases x with
  |none=>exact hx.elim
  |some v=>exact⟨v,rfl,hx⟩
 cases op
 case call c=>
  obtain⟨callee,args,ats⟩:=c
  cases callee with
  |value f=>simp[Dm] at hq
  |builtin b=>cases b<;>first |(simp[Dm] at hq;done) |(rw[BZ (by simp) (by simp) (by simp)] at h;exact key _ h)
  |invoke a b=>simp[Dm] at hq
 all_goals first |(simp[Dm] at hq;done) |exact(show False from h).elim |exact key _ h
theorem US {ws ts:List Nat}{th0:List NLoc}{w':World}(hl:Later th0 th)(hpre: ∀i ∈ ws,∃L,th0[i]?=some L)(hts: ∀t ∈ ts,t ∈ ws)(h:ExtT th ts w w'):ExtX (Xs ws th0) w w':=
 ⟨h.size,fun b hb hX=>h.same b hb (fun n hn L hL hp e=>by
  obtain⟨L0,h0⟩:=hpre n (hts n hn);have:=hl n L0 h0;rw[hL] at this;cases this
  exact hX ⟨n,hts n hn,L,h0,hp,e⟩),h.sys⟩
theorem O2 {ops:Array Oper}{kp:AV->AS->Prop}{Q:Exit->Act->World->Prop}{K:AS->Prop}{n:Nat}{ws:List Nat}{th0:List NLoc}(hpre: ∀i ∈ ws,∃L,th0[i]?=some L)(hQ: ∀c a d v w,Q (.panic c) (a.put d v) w->Q (.panic c) a w)
  (hp: ∀x v st' th' z' a' w',kp x st'->Sim E N st' th' z' a' w'->Rep w' z' th' x v->Q (.panic [{v:=v,recovered:=false}]) a' w')
  (hK: ∀st' th' z' a' w',K st'->Sim E N st' th' z' a' w'->Q .normal a' w') (hd: ∀o ∈ ops.toList,∀i,o.dst=some i->i<N)
  (h1:Region.noSelect ops=true) (h2: ∀s,HeadInv .any ops n s-> ∀i,i<n->s.getD i true=false-> ∀j ∈ Region.ready .any ops s,j<n):
  ∀(ord:List Nat){s:Array Bool}{st:AS}{th:List NLoc}{z:AO}{a:Act}{w:World},HeadInv .any ops n s->GX ops n ord s=true->Sim E N st th z a w->Later th0 th->IY P E N ws (Bf ops) kp (ops.toList.drop n) (B3 ops ord) st K->Uk P ops Q n (Xs ws th0) (SZ P ops Q n) ord.length s a w
 | [],s,st,th,z,a,w,inv,ho,h,hl,hx=>⟨ho,DL hp hK _ (fun o ho=>hd o (eJ ho)) h (Eb hx)⟩
 |i::rest,s,st,th,z,a,w,inv,ho,h,hl,hx=>by
  simp only[GX,aJ,aP] at ho;obtain⟨⟨hin,ho1⟩,ho2⟩:=ho
  cases hi:ops[i]? with
  |none=>rw[hi] at ho1;simp at ho1
  |some o=>
   simp only[B3,List.filterMap_cons,hi] at hx;unfold IY at hx;have hmem:o ∈ ops.toList:=dZ.2 (dC hi);have hdo:=hd o hmem;simp only[hi] at ho1;have ih: ∀ {s:Array Bool}{st:AS}{th:List NLoc}{z:AO}{a:Act}{w:World},HeadInv .any ops n s->GX ops n rest s=true->Sim E N st th z a w->Later th0 th->IY P E N ws (Bf ops) kp (ops.toList.drop n) (B3 ops rest) st K->Uk P ops Q n (Xs ws th0) (SZ P ops Q n) rest.length s a w:=
    O2 hpre hQ hp hK hd h1 h2 rest
   have hx':FC (Jn (Bf ops) st o.guard) (match Dm o.op with
     |true=>VQ ws st=true/\OS (Aa P E.G (hid ws st) o.op) st (fun v st'=>IY P E N ws (Bf ops) kp (ops.toList.drop n) (B3 ops rest) (st'.put o.dst v) K)
     |false=>Je P E N ws (G_ st E.G o.op) (Aa P E.G st o.op) st (fun v st'=>IY P E N ws (Bf ops) kp (ops.toList.drop n) (B3 ops rest) (st'.put o.dst v) K) kp) (IY P E N ws (Bf ops) kp (ops.toList.drop n) (B3 ops rest) (st.put o.dst (.r (.tuple #[]))) K):=by
    split at hx
    ·rename_i e;rw[e];exact hx
    ·rename_i e;rw[e];exact hx
    ·exact hx.elim
    ·rename_i e;rw[e];exact hx
   have guard:=DP h hx';split at ho1
   ·rename_i hq
    simp only[aJ] at ho1;obtain⟨hr,hf⟩:=ho1
    have hr':i ∈ Region.ready .any ops s:=by simpa using hr
    rcases guard with ⟨hw,hs⟩ |⟨hw,hs⟩
    ·rw[hq] at hs
     obtain⟨hprs,hs⟩:=hs;obtain⟨x,hqv,hs⟩:=Tg hq hs;obtain⟨v,hrep,hrun⟩:=Eu (Sb h ws) o hqv;refine Mz hi (dI h1) (fun c a w=>hQ c a _ _ w) h2 hin (fun s a w hL=>seqB_ready hL.1) _ s a w inv (dU hi hf) hr' (.inl ⟨hw,fun w' e=>hrun w' (fun b hb=>e.same b (hb.lt (Sb h ws)) (Z7 h hl hprs hb))⟩)
      (ih (inv.set hr' hin) ho2 (h.put hrep o.dst hdo) hl hs)
    ·exact Mz hi (dI h1) (fun c a w=>hQ c a _ _ w) h2 hin (fun s a w hL=>seqB_ready hL.1) _ s a w inv (dU hi hf) hr' (.inr ⟨hw,rfl⟩)
      (ih (inv.set hr' hin) ho2 (h.put (.r th undef) o.dst hdo) hl hs)
   ·rename_i hq
    have hq:Dm o.op=false:=by simpa using hq
    simp only[aP] at ho1
    have hr':i ∈ Region.ready .any ops s:=by rw[ho1];simp
    refine⟨fun h0=>(by rw[h0] at hr';cases hr'),fun j hj=>?_⟩;rw[ho1] at hj
    obtain rfl:j=i:=by simpa using hj
    refine⟨hin,?_⟩;unfold wpOp;simp only[hi]
    rcases guard with ⟨hw,hs⟩ |⟨hw,hs⟩
    ·rw[if_pos hw]
     rw[hq] at hs;exact .inl (P_ h o hs hdo (fun x st' th' z' a' w' ts g1 g2 g3 g4 g5=>⟨US hl hpre g5 g4,ih (inv.set hr' hin) ho2 g2 (hl.trans g3) g1⟩) (fun x v st' th' z' w' g1 g2 g3=>hp x v st' th' z' a w' g1 g2 g3))
    ·rw[if_neg (by rw[hw];exact dM)]
     exact⟨ExtX.refl _ w,ih (inv.set hr' hin) ho2 (h.put (.r th undef) o.dst hdo) hl hs⟩
theorem ZY {id:Nat}{ops:Array Oper}{AQ:AExit->AS->Prop}{ds:List (Option Nat)}{l l':List Oper}(hm:P.follows .mixedOrders=true)(ws:List Nat)(n:Nat)(ord:List Nat)(hB:Ex ops n ord=true)(hd:DS N ops=true)
  (hds:Bf ops=ds) (ht:ops.toList.drop n=l') (hh:B3 ops ord=l) (hws:VQ ws st=true) (h: ∀(K:AS->Prop)(kp:AV->AS->Prop),(∀st',AQ .normal st'->K st')->(∀x st',AQ (.pan x) st'->kp x st')->IY P E N ws ds kp l' l st K):AWP P E N (.region id ops true) st AQ:=by
 subst hds ht hh;have h:=h (AQ .normal) (fun x st=>AQ (.pan x) st) (fun _ h=>h) (fun _ _ h=>h);intro Q hQ th z a w hs;simp only[Ex,aJ,aP] at hB;obtain⟨⟨⟨b1,b2⟩,b5⟩,b6⟩:=hB
 have hle:n≤ops.size:=by
  rcases cA _ _▸b2 with b2 |b2
  ·exact eL (aZ b2)
  ·simp only[aJ,aP] at b2;exact Nat.le_of_lt b2.2
 have hlt: ∀s,HeadInv .any ops n s-> ∀i,i<n->s.getD i true=false-> ∀j ∈ Region.ready .any ops s,j<n:=by
  intro s inv i hi hs j hj
  rcases cA _ _▸b2 with b2 |b2
  ·have:=aZ b2
   obtain⟨_,oj,hoj,_⟩:=cO.1 hj;rw[this];exact(bR.1 hoj).1
  ·simp only[aJ,aP] at b2
   by_cases h:j<n
   ·exact h
   ·exact absurd hj (tail_waits b2.1.1 b2.1.2 b2.2 inv _ i rfl hi hs j (by omega))
 let Q':Exit->Act->World->Prop:=fun e a w=>match e with
  | .panic c=> ∀a':Act,a'.defers=a.defers->Q (.panic c) a' w
  |e=>Q e a w
 refine wp_mono (Q:=Q') ?_ (fun e a w hq=>by
  cases e
  case panic c=>exact hq a rfl
  all_goals exact hq)
 have inv0:HeadInv .any ops n (Array.replicate ops.size false):=
  ⟨by simp,fun j oj _ hl=>(by rw[getD_replicate_false] at hl;cases hl),fun t _ ht=>getD_in (by simpa using ht) (getD_replicate_false _ _)⟩
 refine wp_region_any hm ?_
 have hpre: ∀i ∈ ws,∃L,th[i]?=some L:=by
  intro i hi;obtain⟨nd,hnd⟩:=fT.1 (bS.1 hws i hi);obtain⟨L,h1,_⟩:=hs.mem.nds i nd hnd;exact⟨L,h1⟩
 have key:=O2 (Q:=Q') (K:=AQ .normal) (kp:=fun x st=>AQ (.pan x) st) (P:=P) (th0:=th) hpre (fun c a d v w hq a' ha=>hq a' (by rw[ha];cases d<;>rfl)) (fun x v st' th' z' a' w' g1 g2 g3 a2 ha=>hQ.2.2.2 x v st' th' z' w' g1 g2.mem g3 a2 (ha.trans g2.dfs))
  (fun st' th' z' a' w' g1 g2=>hQ.1 st' th' z' a' w' g1 g2) (Cq hd) b1 hlt ord inv0 b6 (hs.ext (H6 w)) (Later.refl th) h
 have:=Qm (g:=ops.size - n) (fun s a w hL=>by
  have:=wpAny_of_seq (md:= .any) (Q':=Q') (ops.toList.drop n) n s a w (fun j=>by simp[bI]) (by simpa using hL.1) hL.2
  simpa using this) _ _ _ _ key
 rw[b5,show n+(ops.size - n)=ops.size by omega] at this;exact this
end
@[go_sem] theorem A1h (x:Operand):Dm (.move x)=true:=rfl
@[go_sem] theorem Zy (x:Operand):Dm (.assign x)=true:=rfl
@[go_sem] theorem A1g (c a b:Operand):Dm (.pick c a b)=true:=rfl
@[go_sem] theorem A1i (T:TypeId) (x:Operand):Dm (.load T x)=true:=rfl
@[go_sem] theorem YI (x:Operand):Dm (.nilCheck x)=true:=rfl
@[go_sem] theorem iq_bin (op:BinOp) (T T':TypeId) (x y:Operand):Dm (.binOp op T x y T')=true:=rfl
@[go_sem] theorem iq_un (op:UnOp) (T:TypeId) (x:Operand):Dm (.unOp op T x)=true:=rfl
@[go_sem] theorem ZC (s d:TypeId) (x:Operand):Dm (.convert s d x)=true:=rfl
@[go_sem] theorem A0s (T:TypeId) (x:Operand) (lo hi m:Option Operand):Dm (.slice T x lo hi m)=true:=rfl
@[go_sem] theorem XT (T:TypeId) (x:Operand) (f:Nat):Dm (.fieldAddr T x f)=true:=rfl
@[go_sem] theorem XS (T:TypeId) (x i:Operand):Dm (.indexAddr T x i)=true:=rfl
@[go_sem] theorem A0t (T:TypeId) (x i:Operand):Dm (.index T x i)=true:=rfl
@[go_sem] theorem ZB (t:Operand) (i:Nat):Dm (.extract t i)=true:=rfl
@[go_sem] theorem A0v (T:TypeId) (ps:Array (Nat×Operand)):Dm (.build T ps)=true:=rfl
@[go_sem] theorem iq_len (args:Array Operand) (ats:Array TypeId):Dm (.call {callee:= .builtin .len,args:=args,argTypes:=ats})=true:=rfl
@[go_sem] theorem iq_box (T:TypeId) (x:Operand):Dm (.box T x)=false:=rfl
@[go_sem] theorem A0w (T:TypeId):Dm (.alloc T)=false:=rfl
@[go_sem] theorem Wj (T:TypeId) (n:Nat) (ps:Array (Nat×Operand)):Dm (.buildSlice T n ps)=false:=rfl
@[go_sem] theorem A0r (T:TypeId) (x v:Operand):Dm (.store T x v)=false:=rfl
@[go_sem] theorem XR (T:TypeId) (l c:Operand):Dm (.makeSlice T l c)=false:=rfl
@[go_sem] theorem ZA (T:TypeId) (r:Option Operand):Dm (.makeMap T r)=false:=rfl
@[go_sem] theorem XQ (T:TypeId) (m i v:Operand):Dm (.mapUpdate T m i v)=false:=rfl
@[go_sem] theorem Zx (T:TypeId) (x i:Operand) (b:Bool):Dm (.lookup T x i b)=true:=rfl
@[go_sem] theorem A0q (f:Operand) (args:Array Operand) (ats:Array TypeId):Dm (.call {callee:= .value f,args:=args,argTypes:=ats})=false:=rfl
@[go_sem] theorem Zz (args:Array Operand) (ats:Array TypeId):Dm (.call {callee:= .builtin .append,args:=args,argTypes:=ats})=false:=rfl
@[go_sem] theorem A0u (args:Array Operand) (ats:Array TypeId):Dm (.call {callee:= .builtin .clear,args:=args,argTypes:=ats})=false:=rfl
@[go_sem] theorem A1_ (st:AS) (G:List (Nat×List Value)) (T:TypeId) (x:Operand):G_ st G (.box T x)=[]:=rfl
@[go_sem] theorem Zh (st:AS) (G:List (Nat×List Value)) (T:TypeId):G_ st G (.alloc T)=[]:=rfl
@[go_sem] theorem V2 (st:AS) (G:List (Nat×List Value)) (T:TypeId) (n:Nat) (ps:Array (Nat×Operand)):G_ st G (.buildSlice T n ps)=[]:=rfl
@[go_sem] theorem Wf (st:AS) (G:List (Nat×List Value)) (T:TypeId) (l c:Operand):G_ st G (.makeSlice T l c)=[]:=rfl
@[go_sem] theorem Ze (st:AS) (G:List (Nat×List Value)) (f:Operand) (args:Array Operand) (ats:Array TypeId):G_ st G (.call {callee:= .value f,args:=args,argTypes:=ats})=[]:=rfl
def A0P:Option AV->List Nat
 |some (.p n _ _)=>[n]
 |_=>[]
def YT:Option (List AV)->List Nat
 |some (.s n _ _::_)=>[n]
 |_=>[]
def A0O:Option AV->List Nat
 |some (.q n)=>[n]
 |_=>[]
@[go_sem] theorem Y2 (st:AS) (G:List (Nat×List Value)) (T:TypeId) (r:Option Operand):G_ st G (.makeMap T r)=[]:=rfl
@[go_sem] theorem We (st:AS) (G:List (Nat×List Value)) (T:TypeId) (x i v:Operand):G_ st G (.mapUpdate T x i v)=A0O (ev st G x):=rfl
@[go_sem] theorem Zf (st:AS) (G:List (Nat×List Value)) (T:TypeId) (x v:Operand):G_ st G (.store T x v)=A0P (ev st G x):=rfl
@[go_sem] theorem YS (st:AS) (G:List (Nat×List Value)) (args:Array Operand) (ats:Array TypeId):G_ st G (.call {callee:= .builtin .append,args:=args,argTypes:=ats})=YT (FV st G args.toList):=rfl
@[go_sem] theorem Zg (st:AS) (G:List (Nat×List Value)) (args:Array Operand) (ats:Array TypeId):G_ st G (.call {callee:= .builtin .clear,args:=args,argTypes:=ats})=YT (FV st G args.toList):=rfl
attribute [go_sem] A0P YT A0O
section
variable (P:Program) (E:Env) (N:Nat) (ws:List Nat) (ds:List (Option Nat)) (kp:AV->AS->Prop) (tail rest:List Oper) (st:AS) (K:AS->Prop)
def ZG (g:GV)(d:Option Nat)(op:Op):Prop:=match g with
 | .yes=>match Dm op with
   |true=>VQ ws st=true/\OS (Aa P E.G (hid ws st) op) st (fun v st'=>IY P E N ws ds kp tail rest (st'.put d v) K)
   |false=>Je P E N ws (G_ st E.G op) (Aa P E.G st op) st (fun v st'=>IY P E N ws ds kp tail rest (st'.put d v) K) kp
 | .no=>IY P E N ws ds kp tail rest (st.put d (.r (.tuple #[]))) K
 | .bad=>False
 | .ask b w=>(b=w->match Dm op with
   |true=>VQ ws st=true/\OS (Aa P E.G (hid ws st) op) st (fun v st'=>IY P E N ws ds kp tail rest (st'.put d v) K)
   |false=>Je P E N ws (G_ st E.G op) (Aa P E.G st op) st (fun v st'=>IY P E N ws ds kp tail rest (st'.put d v) K) kp)/\(b= !w->IY P E N ws ds kp tail rest (st.put d (.r (.tuple #[]))) K)
def goX (q:Bool)(d:Option Nat)(op:Op):Prop:=match q with
 |true=>VQ ws st=true/\OS (Aa P E.G (hid ws st) op) st (fun v st'=>IY P E N ws ds kp tail rest (st'.put d v) K)
 |false=>Je P E N ws (G_ st E.G op) (Aa P E.G st op) st (fun v st'=>IY P E N ws ds kp tail rest (st'.put d v) K) kp
def A1B (r:SR)(d:Option Nat):Prop:=OS r st (fun v st'=>IY P E N ws ds kp tail rest (st'.put d v) K)
def ZE (ts:List Nat)(r:SR)(d:Option Nat):Prop:=Je P E N ws ts r st (fun v st'=>IY P E N ws ds kp tail rest (st'.put d v) K) kp
def A1T (g:Nat)(xs:List AV)(d:Option Nat):Prop:= ∃ts,(∀t ∈ ts,t ∈ ws)/\CallT P E N g xs st ts (fun v st'=>IY P E N ws ds kp tail rest (st'.put d v) K) kp
@[go_sem] theorem A1t:IY P E N ws ds kp tail [] st K=ex P E N ds kp tail st K:=rfl
@[go_sem] theorem A1N (d:Option Nat) (op:Op) (t:TypeId) (p:String) (af:Array Edge) (g:Option (Nat×Bool)):IY P E N ws ds kp tail (⟨d,op,t,p,af,g⟩::rest) st K=ZG P E N ws ds kp tail rest st K (Jn ds st g) d op:=rfl
@[go_sem] theorem A1L (d:Option Nat) (op:Op):ZG P E N ws ds kp tail rest st K .yes d op=goX P E N ws ds kp tail rest st K (Dm op) d op:=rfl
@[go_sem] theorem A1m (d:Option Nat) (op:Op):ZG P E N ws ds kp tail rest st K .no d op=IY P E N ws ds kp tail rest (st.put d (.r (.tuple #[]))) K:=rfl
@[go_sem] theorem goX_t (d:Option Nat) (op:Op):goX P E N ws ds kp tail rest st K true d op=(VQ ws st=true/\A1B P E N ws ds kp tail rest st K (Aa P E.G (hid ws st) op) d):=rfl
@[go_sem] theorem goX_f (d:Option Nat) (op:Op):goX P E N ws ds kp tail rest st K false d op=ZE P E N ws ds kp tail rest st K (G_ st E.G op) (Aa P E.G st op) d:=rfl
@[go_sem] theorem A1A (d:Option Nat) (v:AV) (s:AS):A1B P E N ws ds kp tail rest st K (.val v s) d=IY P E N ws ds kp tail rest (st.put d v) K:=rfl
@[go_sem] theorem A0A (ts:List Nat) (d:Option Nat) (c:Prop) (v:AV) (s:AS):ZE P E N ws ds kp tail rest st K ts (.cond c v s) d=((NS ws ts=true/\c)/\IY P E N ws ds kp tail rest (s.put d v) K):=rfl
@[go_sem] theorem A0B (ts:List Nat) (d:Option Nat) (g:Nat) (xs:List AV):ZE P E N ws ds kp tail rest st K ts (.call g xs) d=A1T P E N ws ds kp tail rest st K g xs d:=rfl
end
theorem A0z (ds:List (Option Nat))(st:AS):Jn ds st none= .yes:=rfl
attribute [go_sem] hid VQ NS N_ List.foldl_cons List.foldl_nil List.contains_cons List.contains_nil Option.isSome_some Option.isSome_none
section
variable {P:Program} {E:Env} {N:Nat} {ws:List Nat} {ds:List (Option Nat)} {kp:AV->AS->Prop} {tail rest:List Oper} {st:AS} {K:AS->Prop} {d:Option Nat}
theorem Vn {b w:Bool}{op:Op}(h1:b=true->GD P E N ds kp tail rest st K (.ask true w) d op)(h2:b=false->GD P E N ds kp tail rest st K (.ask false w) d op):GD P E N ds kp tail rest st K (.ask b w) d op:=by
 cases b
 ·exact h2 rfl
 ·exact h1 rfl
theorem XX {b w:Bool}{op:Op}(h1:b=true->Oi P E N ds kp rest st K (.ask true w) d op)(h2:b=false->Oi P E N ds kp rest st K (.ask false w) d op):Oi P E N ds kp rest st K (.ask b w) d op:=by
 cases b
 ·exact h2 rfl
 ·exact h1 rfl
end
structure AS.le (s s':AS):Prop where
 m: ∀i x,lk s.m i=some x->lk s'.m i=some x
 o: ∀i x,lk s.o i=some x->lk s'.o i=some x
section
variable {G:List (Nat×List Value)} {s s':AS}
theorem T1 (h:s.le s'){x:Operand}{v:AV}(he:ev s G x=some v):ev s' G x=some v:=by
 cases x with
 |tmp t=>exact h.m _ _ he
 |const v=>exact he
 |global g=>exact he
 |func f=>exact he
theorem MW (h:s.le s'): ∀ {l:List Operand}{c:List AV},FV s G l=some c->FV s' G l=some c
 | [],c,he=>he
 |x::r,c,he=>by
  simp only[FV] at he ⊢;split at he
  ·rename_i a l h1 h2;cases he;rw[T1 h h1,MW h h2]
  ·cases he
mutual
theorem Qg (h:s.le s'): ∀(x:AV){y:AV},FE s x=some y->FE s' x=some y
 | .s n lo len,y,hb=>by
   simp only[FE] at hb ⊢;split at hb
   ·rename_i T k els hn;rw[h.o _ _ hn];exact hb
   ·rename_i T k els hn;rw[h.o _ _ hn];exact hb
   ·cases hb
 | .p n i off,y,hb=>by
   simp only[FE] at hb ⊢;split at hb
   ·rename_i T c hn;rw[h.o _ _ hn];exact hb
   ·cases hb
 | .r u,y,hb=>hb
 | .ro t k els,y,hb=>hb
 | .re t c off,y,hb=>hb
 | .agg c,y,hb=>by
   simp only[FE,aF] at hb ⊢;obtain⟨c',h1,h2⟩:=hb;exact⟨c',Fv h c h1,h2⟩
 | .tup c,y,hb=>by
   simp only[FE,aF] at hb ⊢;obtain⟨c',h1,h2⟩:=hb;exact⟨c',Fv h c h1,h2⟩
 | .fn f c,y,hb=>by
   simp only[FE,aF] at hb ⊢;obtain⟨c',h1,h2⟩:=hb;exact⟨c',Fv h c h1,h2⟩
 | .ifc t x,y,hb=>by
   simp only[FE,aF] at hb ⊢;obtain⟨c',h1,h2⟩:=hb;exact⟨c',Qg h x h1,h2⟩
 | .q n,y,hb=>by simp[FE] at hb
 | .u _ _ _,y,hb=>by simp[FE] at hb
 | .any,y,hb=>hb
theorem Fv (h:s.le s'): ∀(c:List AV){d:List AV},C0 s c=some d->C0 s' c=some d
 | [],d,hb=>hb
 |x::r,d,hb=>by
  simp only[C0] at hb ⊢;split at hb
  ·rename_i y l h1 h2;cases hb;rw[Qg h x h1,Fv h r h2]
  ·cases hb
end
end
mutual
def GW:AV->Bool
 | .r _ | .ro _ _ _ | .re _ _ _=>true
 | .agg c | .tup c=>Lp c
 |_=>false
def Lp:List AV->Bool
 | []=>true
 |x::r=>GW x&&Lp r
end
mutual
theorem Vr (st:AS): ∀(x:AV),GW x=true->NI st x=some (x,st)
 | .r v,_=>rfl
 | .ro t k els,_=>rfl
 | .re t c off,_=>rfl
 | .agg c,h=>by simp only[GW] at h;simp only[NI,Hc st c h]
 | .tup c,h=>by simp only[GW] at h;simp only[NI,Hc st c h]
 | .s n lo len,h=>by simp[GW] at h
 | .p n i off,h=>by simp[GW] at h
 | .fn f c,h=>by simp[GW] at h
 | .ifc t x,h=>by simp[GW] at h
 | .q n,h=>by simp[GW] at h
 | .u _ _ _,h=>by simp[GW] at h
 | .any,h=>by simp[GW] at h
theorem Hc (st:AS): ∀(c:List AV),Lp c=true->MK st c=some (c,st)
 | [],_=>rfl
 |x::r,h=>by
  simp only[Lp,aJ] at h;simp only[MK,Vr st x h.1,Hc st r h.2]
end
section
variable {P:Program} {E:Env} {N:Nat} {st:AS} {th:List NLoc} {z:AO} {a:Act} {w:World}
theorem Rep.lt {x:AV}{v:Value}(h:Rep w z th x v){f:Nat->Nat}(hf: ∀i,i<th.length->f i=i):AM.ren f x=x:=by
 have lists: ∀(c:List AV)(ys:List Value),ys.length=c.length->(∀(i:Nat)(x:AV)(y:Value),c[i]?=some x->ys[i]?=some y->AM.ren f x=x)->renL f c=c:=by
  intro c
  induction c with
  |nil=>intro ys _ _;rfl
  |cons x r ih=>
   intro ys hl hx
   match ys,hl with
   |y::ys,hl=>
    simp only[renL];rw[hx 0 x y rfl rfl,ih ys (by simpa using hl) (fun i a b h1 h2=>hx (i+1) a b (by simpa using h1) (by simpa using h2))]
 induction h with
 |r th v=>rfl
 |nil th t k a c=>rfl
 |ro th t k els b o c ys hz hc hk hy h1 hx ih=>rfl
 |re th t c b o off ys hz hy hx ih=>rfl
 |s th n lo len c o L hL hp hl hc ho=>simp only[AM.ren];rw[hf n (aA.1 hL).1]
 |sn th n lo L hL hp=>simp only[AM.ren];rw[hf n (aA.1 hL).1]
 |p th n i off L hL=>simp only[AM.ren];rw[hf n (aA.1 hL).1]
 |agg th c ys hl hx ih=>simp only[AM.ren];rw[lists c ys hl (fun i x y h1 h2=>ih i x y h1 h2 hf)]
 |tup th c ys hl hx ih=>simp only[AM.ren];rw[lists c ys hl (fun i x y h1 h2=>ih i x y h1 h2 hf)]
 |fn th g c ys hl hx ih=>simp only[AM.ren];rw[lists c ys hl (fun i x y h1 h2=>ih i x y h1 h2 hf)]
 |ifc th t x v hx ih=>simp only[AM.ren];rw[ih hf]
 |q th n L hL=>simp only[AM.ren];rw[hf n (aA.1 hL).1]
 |any th v=>rfl
theorem Reps.lt {c:List AV}{ys:List Value}(h:Reps w z th c ys){f:Nat->Nat}(hf: ∀i,i<th.length->f i=i):renL f c=c:=by
 induction c generalizing ys with
 |nil=>rfl
 |cons x r ih=>
  obtain⟨y,ys',rfl,h1,h2⟩:=h.head;simp only[renL];rw[h1.lt hf,ih h2]
def ZM:Nd->Bool
 | .ul _ _ _ (_::_)=>false
 |_=>true
def YL:List (Nat×Nd)->Bool
 | []=>true
 |p::r=>ZM p.2&&YL r
theorem T6: ∀ {o:List (Nat×Nd)}{i:Nat}{nd:Nd},YL o=true->lk o i=some nd->ZM nd=true
 | [],i,nd,_,h=>by simp[lk] at h
 |(j,x)::r,i,nd,hc,h=>by
  simp only[YL,aJ] at hc;simp only[lk] at h;split at h
  ·cases h;exact hc.1
  ·exact T6 hc.2 h
theorem NdAt.lt {L:NLoc}{nd:Nd}(h:NdAt w z th L nd)(hc:ZM nd=true){f:Nat->Nat}(hf: ∀i,i<th.length->f i=i):AA f nd=nd:=by
 cases nd with
 |box T c=>obtain⟨_,cells,fr,_,_,_,h4⟩:=h;simp only[AA];rw[h4.lt hf]
 |lst T k els=>rfl
 |ul T k els op=>cases op with
  |nil=>rfl
  |cons p r=>cases hc
 |mp l=>rfl
theorem Sim.more (h:Sim E N st th z a w)(k:Nat):Sim E N {st with n:=st.n+k} (th++List.replicate k ⟨0,0,0,0,false⟩) z a w:=by
 have m:=h.mem
 have old: ∀i nd L,lk st.o i=some nd->(th++List.replicate k (⟨0,0,0,0,false⟩:NLoc))[i]?=some L->th[i]?=some L:=by
  intro i nd L hi hL;obtain⟨M,h1,_,_⟩:=m.nds i nd hi;have:=Ak (List.replicate k (⟨0,0,0,0,false⟩:NLoc)) h1;rw[hL] at this;cases this;exact h1
 refine⟨⟨by simp[m.len],fun i nd hi=>?_,fun i j x y L M hi hj hL hM=>m.inj i j x y L M hi hj (old i x L hi hL) (old j y M hj hM),m.zlt,m.grow,m.frame,m.zin,m.zout,m.zb,m.globs,fun i L hi=>Ak _ (m.pre i L hi),m.sys,let ⟨U,hU⟩:=m.uls;⟨U,hU.on (Le.refl w z) (Nat.le_refl _) (fun _ _ _=>rfl) hU.nz (fun i T k els op hi=>⟨hi,fun _ _=> .inr rfl⟩) _ (fun i nd hi=> .inl (let ⟨L,h1,_⟩:=m.nds i nd hi;(aA.1 h1).1)) (fun i nd L j hi hL=>hU.kn i nd L j hi (old i nd L hi hL))⟩⟩,h.size,h.dfs,fun i x hi=>?_⟩
 ·obtain⟨L,h1,h2,h3⟩:=m.nds i nd hi
  exact⟨L,Ak _ h1,h2.on (Le.refl w z) (fun _=>rfl) _,h3⟩
 ·obtain⟨y,hy,hr⟩:=h.slots i x hi
  exact⟨y,hy,hr.on (Le.refl w z) _⟩
theorem Sim.renL (h:Sim E N st th z a w)(ρ:List Nat){st':AS}(hr: ∀j ∈ ρ,j<st.n)(hb:st.n≤1000000000)(hm: ∀i x,lk st'.m i=some x->lk st.m i=some (ren (AU ρ) x))(ho: ∀i nd,lk st'.o i=some nd-> ∃j,ρ[i]?=some j/\lk st.o j=some (AA (AU ρ) nd))(hn:st'.n=ρ.length)
  (hpre: ∀i,i<E.th0.length->ρ[i]?=some i) (hnd:ρ.Nodup):Sim E N st' (Dn th ρ) z a w:=by
 have m:=h.mem
 have hr': ∀j ∈ ρ,j<th.length:=fun j hj=>by rw[m.len];exact hr j hj
 have hb':th.length≤1000000000:=by rw[m.len];exact hb
 refine⟨⟨by simp[Dn,hn],fun i nd hi=>?_,fun i i' x y L M hi hi' hL hM e1 e2 hbb=>?_,m.zlt,m.grow,m.frame,m.zin,m.zout,m.zb,m.globs,fun i L hi=>?_,m.sys,let ⟨_,hU⟩:=m.uls;⟨_,hU.ren hr' hb' hnd ho⟩⟩,h.size,h.dfs,fun i x hi=>?_⟩
 ·obtain⟨j,hj,hnd⟩:=ho i nd hi
  obtain⟨L,k1,k2,k3⟩:=m.nds j _ hnd;exact⟨L,by rw[Ay hr' hj];exact k1,k2.unren (DY hr' hb'),k3⟩
 ·obtain⟨j,hj,hx⟩:=ho i x hi
  obtain⟨j',hj',hy⟩:=ho i' y hi';rw[Ay hr' hj] at hL;rw[Ay hr' hj'] at hM;have:=m.inj j j' _ _ L M hx hy hL hM e1 e2 hbb;subst this;obtain⟨l1,e1⟩:=aA.1 hj;exact(fD l1 hnd).1 (hj.trans hj'.symm)
 ·have hi':i<E.th0.length:=(aA.1 hi).1
  rw[Ay hr' (hpre i hi')];exact m.pre i L hi
 ·obtain⟨y,hy,hrep⟩:=h.slots i _ (hm i x hi)
  exact⟨y,hy,hrep.unren (DY hr' hb') x rfl⟩
def Gi (M r k:Nat):List Nat:=(List.range M).map fun i=>if r≤i/\i<r+k then M+(i - r) else i
theorem Kx {M r k i:Nat}(h:i<M):(Gi M r k)[i]?=some (if r≤i/\i<r+k then M+(i - r) else i):=by
 simp[Gi,h]
theorem FB {M r k i:Nat}(h:i<M):AU (Gi M r k) i=if r≤i/\i<r+k then M+(i - r) else i:=by
 simp[AU,Kx h]
theorem Wx (M r k:Nat):(Gi M r k).length=M:=by simp[Gi]
theorem Yj {M r k:Nat}(h:r+k≤M): ∀j ∈ Gi M r k,j<M+k:=by
 intro j hj;simp only[Gi,cI,cP] at hj;obtain⟨i,hi,rfl⟩:=hj
 split<;>omega
theorem Tj {M r k:Nat}:(Gi M r k).Nodup:=by
 unfold Gi;rw[List.Nodup,List.pairwise_map];refine List.Pairwise.imp_of_mem ?_ (List.nodup_range (n:=M));intro i j hi hj hne;simp only[cP] at hi hj
 split<;>split<;>omega
def KA (P:Program)(E:Env)(N:Nat)(R:AS)(o:Oper)(v:AV)(os:List (Nat×Nd))(k:Nat):Prop:=
 ∀(S:AS)(th:List NLoc)(z:AO)(a:Act)(w:World),R.le S->S.n=R.n->Sim E N S th z a w-> ∀(next:Act->World->Prop)(Q:Exit->Act->World->Prop),
  (∀th' z' a' w',Sim E N ({S with o:=os++S.o,n:=S.n+k}.put o.dst v) th' z' a' w'->next a' w')->o.wp P a w next Q
theorem Xb {R:AS}{o:Oper}{v:AV}(hd: ∀i,o.dst=some i->i<N)(hv:qv P E.G R o.op=some v):KA P E N R o v [] 0:=by
 intro S th z a w hle hn hs next Q hnext;have hR:Sim E N R th z a w:=hs.sub hn.symm hle.o hle.m;obtain⟨u,hr,hrun⟩:=Eu hR o hv;unfold Oper.wp;rw[hrun w SameK.refl,fQ];exact hnext th z _ w (hs.put hr o.dst hd)
theorem Rn {R:AS}{o:Oper}{T e:TypeId}{len sz s1 b1 b2:Nat}{z1:Option (List Value)}{z2:List Value}{k2:TK}{parts:Array (Nat×Operand)}{c:List AV}{els:List (List AV)}(hd: ∀i,o.dst=some i->i<N)(ho:o.op= .buildSlice T len parts)(hT:AK P T=some ⟨.slice e,s1,b1,z1⟩)(hTe:AK P e=some ⟨k2,sz,b2,some z2⟩)
  (hc:FV R E.G (parts.toList.map (·.2))=some c) (hp:Lp c=true) (hels:JF sz 0 (parts.toList.map (·.1)) c=some els) (hlen:len=els.length/\len * sz≤16777216):KA P E N R o (.s R.n 0 len) [(R.n,.lst e sz els)] 1:=by
 intro S th z a w hle hn hs next Q hnext
 have hk:EO P E N S o.op (fun x s=>x= .s S.n 0 len/\s=Br S (.lst e sz els)) (fun _ _=>False):=by
  rw[ho];simp only[EO,Fs,D6,hT,MW hle hc,hTe,Hc S c hp,hels,Ap];exact⟨hlen,by simp⟩
 refine E9 hs o hk hd (fun x st' th' z' a' w' ⟨h1,h2⟩ h3 _=>?_) (fun x v st' th' z' w' h=>h.elim);subst h1 h2;refine hnext th' z' a' w' ?_;rw[<-hn];exact h3
theorem QI {R:AS}{o:Oper}{T:TypeId}{s1 b1:Nat}{zs:List Value}{k1:TK}(hd: ∀i,o.dst=some i->i<N)(ho:o.op= .alloc T)(hT:AK P T=some ⟨k1,s1,b1,some zs⟩):KA P E N R o (.p R.n 0 0) [(R.n,.box T (zs.map .r))] 1:=by
 intro S th z a w hle hn hs next Q hnext
 have hk:EO P E N S o.op (fun x s=>x= .p S.n 0 0/\s=Br S (.box T (zs.map .r))) (fun _ _=>False):=by
  rw[ho];simp only[EO,D6,hT,Ap];exact⟨trivial,by simp⟩
 refine E9 hs o hk hd (fun x st' th' z' a' w' ⟨h1,h2⟩ h3 _=>?_) (fun x v st' th' z' w' h=>h.elim);subst h1 h2;refine hnext th' z' a' w' ?_;rw[<-hn];exact h3
theorem Ro {R:AS}{o:Oper}{f:Operand}{args:Array Operand}{ats:Array TypeId}{g k:Nat}{caps xs ys:List AV}{res:AV}{os:List (Nat×Nd)}(hd: ∀i,o.dst=some i->i<N)(ho:o.op= .call {callee:= .value f,args:=args,argTypes:=ats})(hf:ev R E.G f=some (.fn g caps))(hx:FV R E.G args.toList=some xs)
  (hc:Con P E.G g ys [] 0 (Is res os k) No) (hb:C0 R (xs++caps)=some ys) (hp:PT res) (hp': ∀p ∈ os,FZ p.2):KA P E N R o (ren (· +R.n) res) (KG R.n os) k:=by
 intro S th z a w hle hn hs next Q hnext
 have hk:EO P E N S o.op (fun x s=>x=ren (· +S.n) res/\s={S with o:=KG S.n os++S.o,n:=S.n+k}) (fun _ _=>False):=by
  rw[ho];simp only[EO,T1 hle hf,MW hle hx,Ke];exact Mq hc (Fv hle _ hb) hp hp' ⟨rfl,rfl⟩
 refine E9 hs o hk hd (fun x st' th' z' a' w' ⟨h1,h2⟩ h3 _=>?_) (fun x v st' th' z' w' h=>h.elim);subst h1 h2;refine hnext th' z' a' w' ?_;rw[<-hn];exact h3
end
structure En where
 i:Nat
 d:Nat
 v:AV
 o:List (Nat×Nd)
structure PU where
 r:Nat
 k:Nat
 anc:List Nat
 chk:List (Nat×Nat)
def Jv:List En->List (Nat×AV)->List (Nat×AV)
 | [],m=>m
 |e::r,m=>(e.d,e.v)::Jv r m
def Ok:List En->List (Nat×Nd)->List (Nat×Nd)
 | [],m=>m
 |e::r,m=>e.o++Ok r m
def U7:List Nat->Nat->Bool
 | [],_=>false
 |d::r,i=>if d=i then true else U7 r i
theorem Sm (l:List Nat)(i:Nat):U7 l i=l.contains i:=by
 induction l with
 |nil=>rfl
 |cons d r ih=>
  simp only[U7,List.contains_cons,ih]
  by_cases h:d=i
  ·subst h;simp
  ·rw[if_neg h];simp[cL h]
def Jr (anc:List Nat):List En->List En
 | []=>[]
 |e::r=>bif U7 anc e.i then e::Jr anc r else Jr anc r
def Jq (ds:List Nat):List (Nat×AV)->List (Nat×AV)
 | []=>[]
 |p::r=>bif U7 ds p.1 then Jq ds r else p::Jq ds r
def N9 (bs:AS)(es:List En):AS:=⟨Jv es bs.m,Ok es bs.o,bs.n⟩
theorem MN {anc:List Nat}{e:En}: ∀ {es:List En},e ∈ Jr anc es↔e ∈ es/\anc.contains e.i=true
 | []=>by simp[Jr]
 |x::r=>by
  simp only[Jr,Sm];cases h:anc.contains x.i
  ·simp only[cond_false,MN (es:=r),bA]
   constructor
   ·rintro⟨h1,h2⟩;exact⟨.inr h1,h2⟩
   ·rintro⟨rfl |h1,h2⟩
    ·rw[h] at h2;cases h2
    ·exact⟨h1,h2⟩
  ·simp only[cond_true,MN (es:=r),bA]
   constructor
   ·rintro(rfl |⟨h1,h2⟩)
    ·exact⟨.inl rfl,h⟩
    ·exact⟨.inr h1,h2⟩
   ·rintro⟨rfl |h1,h2⟩
    ·exact .inl rfl
    ·exact .inr ⟨h1,h2⟩
theorem L7: ∀ {es:List En}{m:List (Nat×AV)}{i:Nat}{x:AV},lk (Jv es m) i=some x->(∃e ∈ es,e.d=i/\e.v=x)\/((∀e ∈ es,e.d≠i)/\lk m i=some x)
 | [],m,i,x,h=> .inr ⟨by simp,h⟩
 |e::r,m,i,x,h=>by
  simp only[Jv,lk] at h;split at h
  ·rename_i he;cases h;exact .inl ⟨e,by simp,he,rfl⟩
  ·rename_i he
   rcases L7 h with ⟨e',h1,h2⟩ |⟨h1,h2⟩
   ·exact .inl ⟨e',by simp[h1],h2⟩
   ·exact .inr ⟨fun e' h'=>(bA.1 h').elim (fun q=>by subst q;exact he) (h1 e'),h2⟩
theorem Ju: ∀ {es:List En}{m:List (Nat×AV)}{i:Nat},(∀e ∈ es,e.d≠i)->lk (Jv es m) i=lk m i
 | [],m,i,h=>rfl
 |e::r,m,i,h=>by
  simp only[Jv,lk];rw[if_neg (h e (by simp)),Ju (fun e' h'=>h e' (by simp[h']))]
theorem MQ: ∀ {es:List En}{m:List (Nat×AV)}{e:En},e ∈ es->(∀a ∈ es,∀b ∈ es,a.d=b.d->a=b)->lk (Jv es m) e.d=some e.v
 |x::r,m,e,he,hu=>by
  simp only[Jv,lk];split
  ·rename_i h;rw[hu x (by simp) e he h]
  ·rename_i h
   rcases bA.1 he with rfl |he
   ·exact(h rfl).elim
   ·exact MQ he (fun a ha b hb=>hu a (by simp[ha]) b (by simp[hb]))
theorem H_: ∀ {es:List En}{m:List (Nat×Nd)}{i:Nat}{x:Nd},lk (Ok es m) i=some x->(∃e ∈ es,lk e.o i=some x)\/lk m i=some x
 | [],m,i,x,h=> .inr h
 |e::r,m,i,x,h=>by
  simp only[Ok] at h;rw[Dq] at h;split at h
  ·rename_i y hy;cases h;exact .inl ⟨e,by simp,hy⟩
  ·rcases H_ h with ⟨e',h1,h2⟩ |h1
   ·exact .inl ⟨e',by simp[h1],h2⟩
   ·exact .inr h1
theorem MP: ∀ {es:List En}{m:List (Nat×Nd)}{i:Nat}{x:Nd},(∀e ∈ es,∀y,lk e.o i=some y->y=x)->((∃e ∈ es,lk e.o i=some x)\/lk m i=some x)->lk (Ok es m) i=some x
 | [],m,i,x,_,h=>h.elim (fun⟨e,he,_⟩=>by cases he) id
 |e::r,m,i,x,hu,h=>by
  simp only[Ok];rw[Dq];split
  ·rename_i y hy;rw[hu e (by simp) y hy]
  ·rename_i hy
   refine MP (fun e' h'=>hu e' (by simp[h'])) ?_
   rcases h with ⟨e',he,h2⟩ |h
   ·rcases bA.1 he with rfl |he
    ·rw[hy] at h2;cases h2
    ·exact .inl ⟨e',he,h2⟩
   ·exact .inr h
theorem LE {ds:List Nat}: ∀ {m:List (Nat×AV)}{i:Nat}{x:AV},lk (Jq ds m) i=some x->ds.contains i=false/\lk m i=some x
 | [],i,x,h=>by simp[Jq,lk] at h
 |p::r,i,x,h=>by
  obtain⟨j,y⟩:=p;simp only[Jq,Sm] at h;cases hc:ds.contains j
  ·rw[hc] at h
   simp only[cond_false,lk] at h;split at h
   ·rename_i e;subst e;exact⟨hc,by simp[lk,h]⟩
   ·rename_i e
    obtain⟨h1,h2⟩:=LE h;exact⟨h1,by simp[lk,e,h2]⟩
  ·rw[hc] at h
   simp only[cond_true] at h;obtain⟨h1,h2⟩:=LE h;refine⟨h1,?_⟩;simp only[lk];rw[if_neg]
   ·exact h2
   ·rintro rfl;rw[hc] at h1;cases h1
def XD (P:Program)(G:List (Nat×List Value))(R:AS):Op->Option (Prop×TypeId×Nat×Nat×List (List AV))
 | .buildSlice T len parts=>match AK P T,FV R G (parts.toList.map (·.2)) with
   |some ⟨.slice e,_,_,_⟩,some c=>match AK P e with
    |some ⟨_,sz,_,some _⟩=>match JF sz 0 (parts.toList.map (·.1)) c with
     |some els=>some (Lp c=true/\len=els.length/\len * sz≤16777216,e,sz,len,els)
     |none=>none
    |_=>none
   |_,_=>none
 |_=>none
def YO (P:Program)(G:List (Nat×List Value))(R:AS)(g:Nat)(xs:List AV)(r k:Nat)(kont:AV->List (Nat×Nd)->Prop):Prop:=
 ∃ys res os,Con P G g ys [] 0 (Is res os k) No/\C0 R xs=some ys/\PT res/\(∀p ∈ os,FZ p.2)/\(∀p ∈ os,p.1<k)/\(k=0->ren (· +R.n) res=ren (· +r) res)/\(0<k->ren (AU (Gi R.n r k)) (ren (· +r) res)=ren (· +R.n) res/\DA (AU (Gi R.n r k)) (KG r os)=KG R.n os)/\kont (ren (· +r) res) (KG r os)
def K9 (P:Program)(E:Env)(R:AS)(op:Op)(r k:Nat)(kont:AV->List (Nat×Nd)->Prop):Prop:=
 match op with
 | .buildSlice T len parts=>match XD P E.G R (.buildSlice T len parts) with
   |some (c,e,sz,len,els)=>c/\k=1/\kont (.s r 0 len) [(r,.lst e sz els)]
   |none=>False
 | .alloc T=>match AK P T with
   |some ⟨_,_,_,some zs⟩=>k=1/\kont (.p r 0 0) [(r,.box T (zs.map .r))]
   |_=>False
 | .call {callee:= .value f,args,..}=>match ev R E.G f,FV R E.G args.toList with
   |some (.fn g caps),some xs=>YO P E.G R g (xs++caps) r k kont
   |_,_=>False
 |op=>match qv P E.G R op with
  |some v=>k=0/\kont v []
  |none=>False
def Xc (f:Nat->Nat):List (Nat×Nd)->Prop
 | []=>True
 |x::r=>AA f x.2=x.2/\Xc f r
theorem QL {f:Nat->Nat}: ∀ {o:List (Nat×Nd)},Xc f o-> ∀x ∈ o,AA f x.2=x.2
 |y::r,h,x,hx=>by
  rcases bA.1 hx with rfl |hx
  ·exact h.1
  ·exact QL h.2 x hx
def Rr (M n0:Nat):List (Nat×Nat)->AV->List (Nat×Nd)->Prop
 | [],_,_=>True
 |q::r,v,o=>(ren (AU (Gi M (n0+q.1) q.2)) v=v/\Xc (AU (Gi M (n0+q.1) q.2)) o)/\Rr M n0 r v o
theorem MO {M n0:Nat}: ∀ {l:List (Nat×Nat)}{v:AV}{o:List (Nat×Nd)}{q:Nat×Nat},Rr M n0 l v o->q ∈ l->ren (AU (Gi M (n0+q.1) q.2)) v=v/\ ∀x ∈ o,AA (AU (Gi M (n0+q.1) q.2)) x.2=x.2
 |q::r,v,o,q',h,hq=>by
  rcases bA.1 hq with rfl |hq
  ·exact⟨h.1.1,QL h.1.2⟩
  ·exact MO h.2 hq
def W2 (P:Program)(E:Env)(N:Nat)(ds:List (Option Nat))(kp:AV->AS->Prop)(tail:List Oper)(n0:Nat)(bs:AS):List PU->List Oper->Nat->List En->(AS->Prop)->Prop
 |_,[],_,es,K=>ex P E N ds kp tail (N9 bs es) K
 | [],_::_,_,_,_=>False
 |p::pl,o::rest,j,es,K=>o.guard=none/\match o.dst with
  |none=>False
  |some d=>K9 P E (N9 bs (Jr p.anc es)) o.op (n0+p.r) p.k (fun v oo=>Rr bs.n n0 p.chk v oo/\W2 P E N ds kp tail n0 bs pl rest (j+1) (⟨j,d,v,oo⟩::es) K)
section
variable {P:Program} {E:Env} {N:Nat}
structure PropE (P:Program)(E:Env)(N:Nat)(bs:AS)(n0:Nat)(L:List En)(j:Nat)(o:Oper)(p:PU)(e:En):Prop where
 i:e.i=j
 g:o.guard=none
 d:o.dst=some e.d
 fr: ∃vM oM,KA P E N (N9 bs (Jr p.anc (L.take j).reverse)) o vM oM p.k/\(p.k=0->vM=e.v/\oM=e.o)/\(0<p.k->vM=ren (AU (Gi bs.n (n0+p.r) p.k)) e.v/\oM=DA (AU (Gi bs.n (n0+p.r) p.k)) e.o)
 fix:Rr bs.n n0 p.chk e.v e.o
 keys: ∀x ∈ e.o,n0+p.r≤x.1/\x.1<n0+p.r+p.k
theorem VL (f:Nat->Nat): ∀zs:List Value,renL f (zs.map AV.r)=zs.map AV.r
 | []=>rfl
 |x::r=>by simp only[List.map_cons,renL,ren,VL f r]
theorem UB {R:AS}{o:Oper}{r k:Nat}{kont:AV->List (Nat×Nd)->Prop}(hd: ∀i,o.dst=some i->i<N)(hr:r+k≤R.n)(h:K9 P E R o.op r k kont):
  ∃v oo vM oM,kont v oo/\KA P E N R o vM oM k/\(k=0->vM=v/\oM=oo)/\(0<k->vM=ren (AU (Gi R.n r k)) v/\oM=DA (AU (Gi R.n r k)) oo)/\ ∀x ∈ oo,r≤x.1/\x.1<r+k:=by
 obtain⟨dst,op,ty,pos,aft,gd⟩:=o;simp only at h hd;unfold K9 at h;split at h
 ·rename_i T len parts
  split at h
  ·rename_i c e sz len' els hl
   obtain⟨hc,rfl,hk⟩:=h;simp only[XD] at hl;split at hl
   ·rename_i e1 s1 b1 z1 c1 hT he
    split at hl
    ·rename_i k2 sz2 b2 z2 hTe
     split at hl
     ·rename_i els2 hels
      simp only[aM,cH] at hl;obtain⟨rfl,rfl,rfl,rfl,rfl⟩:=hl;refine⟨_,_,_,_,hk,Rn hd rfl hT hTe he hc.1 hels hc.2,fun h0=>(by cases h0),fun _=>?_,fun x hx=>?_⟩
      ·have e1:AU (Gi R.n r 1) r=R.n:=by rw[FB (by omega)];simp
       simp[ren,DA,AA,e1]
      ·simp only[aW] at hx;subst hx;exact⟨Nat.le_refl _,by simp⟩
     ·cases hl
    ·cases hl
   ·cases hl
  ·exact h.elim
 ·rename_i T
  split at h
  ·rename_i k1 s1 b1 zs hT
   obtain⟨rfl,hk⟩:=h;refine⟨_,_,_,_,hk,QI hd rfl hT,fun h0=>(by cases h0),fun _=>?_,fun x hx=>?_⟩
   ·have e1:AU (Gi R.n r 1) r=R.n:=by rw[FB (by omega)];simp
    simp[ren,DA,AA,e1,VL]
   ·simp only[aW] at hx;subst hx;exact⟨Nat.le_refl _,by simp⟩
  ·exact h.elim
 ·rename_i f args ats
  split at h
  ·rename_i g caps xs hf hx
   obtain⟨ys,res,os,hc,hb,hp,hp',hkeys,e1,e2,hk⟩:=h;refine⟨_,_,_,_,hk,Ro hd rfl hf hx hc hb hp hp',fun h0=>?_,fun h0=>⟨(e2 h0).1.symm,(e2 h0).2.symm⟩,fun x hx=>?_⟩
   ·subst h0
    have ho:os=[]:=by
     cases os with
     |nil=>rfl
     |cons p r=>exact absurd (hkeys p (by simp)) (by omega)
    subst ho;exact⟨e1 rfl,rfl⟩
   ·simp only[KG,cI] at hx
    obtain⟨p,hp1,rfl⟩:=hx;have:=hkeys p hp1;simp only;omega
  ·exact h.elim
 ·rename_i hq
  split at h
  ·rename_i v hv
   obtain⟨rfl,hk⟩:=h;exact⟨v,[],v,[],hk,Xb hd hv,fun _=>⟨rfl,rfl⟩,fun h0=>(by omega),fun x hx=>by cases hx⟩
  ·exact h.elim
theorem Sz {ds:List (Option Nat)}{kp:AV->AS->Prop}{tail:List Oper}{n0:Nat}{bs:AS}{K:AS->Prop}: ∀ {ops:List Oper}{pl:List PU}{j:Nat}{es:List En},es.length=j->(∀o ∈ ops,∀i,o.dst=some i->i<N)->(∀p ∈ pl,n0+p.r+p.k≤bs.n)->
  W2 P E N ds kp tail n0 bs pl ops j es K-> ∃L:List En,L.take j=es.reverse/\L.length=j+ops.length/\(∀t,t<ops.length-> ∃o p e,ops[t]?=some o/\pl[t]?=some p/\L[j+t]?=some e/\PropE P E N bs n0 L (j+t) o p e)/\ex P E N ds kp tail (N9 bs L.reverse) K
 | [],pl,j,es,hj,_,_,h=>by
   have h':ex P E N ds kp tail (N9 bs es) K:=by cases pl<;>exact h
   refine⟨es.reverse,aN (by rw[List.length_reverse,hj];exact Nat.le_refl _),by simp[hj],fun t ht=>by simp at ht,?_⟩;rw[List.reverse_reverse];exact h'
 |o::rest,[],j,es,hj,_,_,h=>h.elim
 |o::rest,p::pl,j,es,hj,hd,hp,h=>by
  simp only[W2] at h;obtain⟨hg,h⟩:=h;split at h
  ·exact h.elim
  ·rename_i d hdst
   obtain⟨v,oo,vM,oM,⟨hfix,hrest⟩,hfr,hk0,hk1,hkeys⟩:=UB (N:=N) (R:=N9 bs (Jr p.anc es)) (hd o (by simp)) (hp p (by simp)) h;obtain⟨L,h1,h2,h3,h4⟩:=Sz (by simp[hj]) (fun o' ho'=>hd o' (by simp[ho'])) (fun p' hp'=>hp p' (by simp[hp'])) hrest
   have hLj:L[j]?=some ⟨j,d,v,oo⟩:=by
    have:(L.take (j+1))[j]?=L[j]?:=bM (by omega);rw[<-this,h1];simp[hj]
   have htk:L.take j=es.reverse:=by
    have:(L.take (j+1)).take j=L.take j:=by rw[cM];congr 1;omega
    rw[<-this,h1];simp[hj]
   refine⟨L,htk,by simp[h2];omega,fun t ht=>?_,h4⟩
   cases t with
   |zero=>
    refine⟨o,p,⟨j,d,v,oo⟩,rfl,rfl,hLj,⟨rfl,hg,hdst,⟨vM,oM,?_,hk0,hk1⟩,hfix,hkeys⟩⟩;rw[Nat.add_zero,htk,List.reverse_reverse];exact hfr
   |succ t=>
    obtain⟨o',p',e',q1,q2,q3,q4⟩:=h3 t (by simpa using ht)
    have e1:j+1+t=j+(t+1):=by omega
    rw[e1] at q3 q4;exact⟨o',p',e',by simpa using q1,by simpa using q2,q3,q4⟩
def Y7 (ops:Array Oper)(n:Nat)(zs:List Nat):Bool:=
 (List.range n).all fun i=>zs.contains i||(List.range (n+1)).any fun j=>decide (i<j)&& !zs.contains j&&Region.waitsFor .any ops j i
def Vl:Op->Bool
 | .extract _ _=>true
 |_=>false
def A0p:Op->Bool
 | .select _ _=>true
 |_=>false
def okZ (ops:Array Oper)(n:Nat)(pl:List PU)(zs:List Nat):Bool:=
 zs.isEmpty||((zs.all fun z=>decide (z<n)&&match ops[z]? with
  |some oz=>Vl oz.op&&oz.guard.isNone&&((List.range ops.size).all fun j=>j==z||(match pl[z]? with |some p=>p.anc.contains j |none=>false)||match ops[j]? with
   |some oj=>(oj.after.toList.any fun e=>Region.binds .any e&&e.on==z)||oz.apart ops oj
   |none=>true)
  |none=>false)&&(ops.toList.all fun o=> !A0p o.op))
def okU (ops:Array Oper)(n:Nat)(pl:List PU)(tot:Nat)(dss:List Nat)(zs:List Nat):Bool:=
 decide (pl.length=n)&&(decide (n=ops.size)||(Y7 ops n zs&&Region.chainB .any ops n&&decide (n<ops.size)))&&okZ ops n pl zs&&
 ((List.range n).all fun i=>match ops[i]?,pl[i]? with
   |some o,some p=>(match o.dst with |some d=>dss.contains d |none=>false)&&(o.after.toList.all fun e=> !Region.binds .any e||decide (e.on<i))&&
    (p.anc.all fun a=>o.after.toList.any fun e=>Region.binds .any e&&(e.on==a||(match pl[e.on]? with |some q=>q.anc.contains a |none=>false)))&&
    decide (p.r+p.k≤tot)&&((List.range n).all fun h=>h==i||(match ops[h]?,pl[h]? with
     |some oh,some q=> !(oh.dst==o.dst)&&(q.k==0||p.anc.contains h||p.chk.contains (q.r,q.k))&&decide (p.r+p.k≤q.r\/q.r+q.k≤p.r)
     |_,_=>false))
   |_,_=>false)&&
 Region.seqB .any ops (ops.size - n) n ((List.range ops.size).map fun i=>decide (i<n)).toArray
theorem E3 {α:Type}[DecidableEq α]: ∀ {l l':List α},l.Nodup->(∀x ∈ l,x ∈ l')->l.length≤l'.length
 | [],_,_,_=>aU _
 |x::r,l',h,hs=>by
  obtain⟨h1,h2⟩:=dY.1 h;have hx:=hs x (by simp);have:=E3 (l':=l'.erase x) h2 (fun y hy=>(gQ (fun e=>by subst e;exact h1 hy)).2 (hs y (by simp[hy])));rw[List.length_erase_of_mem hx] at this;have:=List.length_pos_of_mem hx;simp only[List.length_cons];omega
end
end Go.AM
