/- Texts of the law ParseParses, part 3: lemmas; what is proved stands in the last text. -/
import Derived.Test.YtmgddlckgpfccaaDoorZz2
import Derived.Below
set_option linter.unusedSimpArgs false
set_option linter.unusedVariables false
set_option maxRecDepth 100000
namespace Go.AM
open Go
def Kt (P:Program)(f:Nat):Bool:=match P.funcs[f]? with
 |some fn=>fn.name != "runtime.NumGoroutine" &&fn.body.isSome
 |none=>false
theorem EO {P:Program}{f:Nat}(h:Kt P f=true)(args:Array Value)(w:World):(callFunc f args).run P w= .ok (.enter f args) w:=by
 unfold Kt at h;split at h
 ·rename_i fn hf
  simp only[Bool.and_eq_true,bne_iff_ne,ne_eq] at h;obtain⟨h1,h2⟩:=h
  have h3:fn.body.isNone=false:=by cases hb:fn.body<;>simp_all
  have h4:(fn.name== "runtime.NumGoroutine")=false:=by simpa using h1
  simp only[callFunc,Sem.run_bind,run_program,Result.andThen_ok,hf,h4,h3]
  rfl
 ·cases h
def CallT (P:Program)(E:Env)(N:Nat)(f:Nat)(xs:List AV)(st:AS)(ts:List Nat)(k kp:AV→AS→Prop):Prop:=
 Kt P f=true∧ ∀th z a w vs,Sim E N st th z a w→Reps w z th xs vs→Calls P f vs.toArray w (fun e w'=> ∃v x st' th' z',((e= .returned v∧k x st')∨(e= .panicked [{v:=v,recovered:=false}]∧kp x st'))∧st'.m=st.m∧Sim E N st' th' z' a w'∧Rep w' z' th' x v∧Later th th'∧ExtT th ts w w')
def CallV (P:Program)(E:Env)(N:Nat)(f:Nat)(xs:List AV)(st:AS)(k kp:AV→AS→Prop):Prop:=
 Kt P f=true∧ ∀th z a w vs,Sim E N st th z a w→Reps w z th xs vs→Calls P f vs.toArray w (fun e w'=> ∃v x st' th' z',((e= .returned v∧k x st')∨(e= .panicked [{v:=v,recovered:=false}]∧kp x st'))∧st'.m=st.m∧Sim E N st' th' z' a w'∧Rep w' z' th' x v)
theorem CallT.v {P:Program}{E:Env}{N:Nat}{f:Nat}{xs:List AV}{st:AS}{ts:List Nat}{k kp:AV→AS→Prop}(h:CallT P E N f xs st ts k kp):CallV P E N f xs st k kp:=
 ⟨h.1,fun th z a w vs h1 h2=>(h.2 th z a w vs h1 h2).mono fun e w' ⟨v,x,st',th',z',h3,h4,h5,h6,_⟩=>⟨v,x,st',th',z',h3,h4,h5,h6⟩⟩
theorem CallV.mono {P:Program}{E:Env}{N:Nat}{f:Nat}{xs:List AV}{st:AS}{k kp k' kp':AV→AS→Prop}(h:CallV P E N f xs st k kp)(hk: ∀v s,k v s→k' v s)(hp: ∀v s,kp v s→kp' v s):CallV P E N f xs st k' kp':=
 ⟨h.1,fun th z a w vs h1 h2=>(h.2 th z a w vs h1 h2).mono fun e w' ⟨v,x,st',th',z',h3,h4⟩=>⟨v,x,st',th',z',h3.imp (fun h=>⟨h.1,hk _ _ h.2⟩) (fun h=>⟨h.1,hp _ _ h.2⟩),h4⟩⟩
def CallG (P:Program)(E:Env)(N:Nat)(f:Nat)(xs:List AV)(st:AS)(k kp:AV→AS→Prop):Prop:=CallT P E N f xs st [] k kp
theorem CallG.v {P:Program}{E:Env}{N:Nat}{f:Nat}{xs:List AV}{st:AS}{k kp:AV→AS→Prop}(h:CallG P E N f xs st k kp):CallV P E N f xs st k kp:=CallT.v h
theorem CallT.mono {P:Program}{E:Env}{N:Nat}{f:Nat}{xs:List AV}{st:AS}{ts:List Nat}{k kp k' kp':AV→AS→Prop}(h:CallT P E N f xs st ts k kp)(hk: ∀v s,k v s→k' v s)(hp: ∀v s,kp v s→kp' v s):CallT P E N f xs st ts k' kp':=
 ⟨h.1,fun th z a w vs h1 h2=>(h.2 th z a w vs h1 h2).mono fun e w' ⟨v,x,st',th',z',h3,h4⟩=>⟨v,x,st',th',z',h3.imp (fun h=>⟨h.1,hk _ _ h.2⟩) (fun h=>⟨h.1,hp _ _ h.2⟩),h4⟩⟩
def Cj (P:Program)(G:List (Nat×List Value))(st:AS)(op:Op):Option (Prop×AV×AS):=
 match op with
 | .box T x=>match AT P T,ev st G x with
   |some _,some x=>some (x.okPart=true,.p st.n 0 0,C2 st (.box T x.cells))
   |_,_=>none
 | .alloc T=>match AT P T with
   |some ⟨_,_,_,some zs⟩=>some (True,.p st.n 0 0,C2 st (.box T (zs.map .r)))
   |_=>none
 | .buildSlice T len parts=>match AT P T,Du st G (parts.toList.map (·.2)) with
   |some ⟨.slice e,_,_,_⟩,some c=>match AT P e,IE st c with
    |some ⟨_,sz,_,some _⟩,some (c',st')=>match GE sz 0 (parts.toList.map (·.1)) c' with
     |some els=>some ((len=els.length∧len * sz≤16777216),.s st'.n 0 len,C2 st' (.lst e sz els))
     |none=>none
    |_,_=>none
   |_,_=>none
 | .store T x v=>match AT P T,ev st G x,ev st G v with
   |some y,some (.p n i off),some v=>match lk st.o n with
    |some (.box T' c)=>if i=0∧v.cells.length=y.size∧off+y.size≤c.length∧v.okPart=true∧v.cells.all AV.cell1=true then some (True,.r (.tuple #[]),BO st n (.box T' (splice c off v.cells))) else none
    |some (.lst T' k' els)=>match GL st v with
     |some (v',st')=>match lk st'.o n,els[i]? with
      |some (.lst _ _ _),some e=>some ((v'.cells.length=y.size∧off+y.size≤e.length∧v'.okPart=true∧v'.cells.all AV.cell1=true),.r (.tuple #[]),BO st' n (.lst T' k' (els.set i (splice e off v'.cells))))
      |_,_=>none
     |none=>none
    |_=>none
   |_,_,_=>none
 | .call {callee:= .builtin .append,args,argTypes}=>match GM P G st args argTypes with
  |some r=>some r
  |none=>match Du st G args.toList,argTypes.toList with
   |some [b,x],[T,T']=>match AT P T,AT P T' with
    |some ⟨.slice e,_,_,_⟩,some y'=>match AT P e with
     |some ⟨_,sz,bytes,some zs⟩=>match Iv st sz y'.k x with
      |some new=>match b with
       | .r (.slice none 0 0)=>some ((zs.length=sz∧0<sz∧new.length * bytes≤140737488355328∧new.length≤9223372036854775807),.s st.n 0 new.length,C2 st (.lst e sz new))
       | .s n lo len=>match lk st.o n with
         |some (.lst T2 k' els)=>some ((T2=e∧zs.length=sz∧k'=sz∧0<sz∧lo+len≤els.length∧(len+new.length) * bytes≤140737488355328∧len+new.length≤9223372036854775807),
          .s st.n 0 (len+new.length),C2 {st with o:=rm st.o n} (.lst e sz ((els.drop lo).take len++new)))
         |_=>none
       |_=>none
      |none=>none
     |_=>none
    |_,_=>none
   |_,_=>none
 | .call {callee:= .builtin .clear,args,argTypes}=>match Du st G args.toList,argTypes.toList with
   |some [x],[T]=>match AT P T with
    |some ⟨.slice e,_,_,_⟩=>match AT P e,x with
     |some ⟨_,sz,_,some zs⟩,.s n lo len=>match lk st.o n with
      |some (.lst T2 k' els)=>some ((zs.length=sz∧k'=sz∧0<sz∧lo+len≤els.length∧zs.all Value.oneCell'=true),.r (.tuple #[]),BO st n (.lst T2 k' (els.take lo++List.replicate len (zs.map .r)++els.drop (lo+len))))
      |_=>none
     |_,_=>none
    |_=>none
   |_,_=>none
 | .makeSlice T l c=>match AT P T,ev st G l,ev st G c with
   |some ⟨.slice e,_,_,_⟩,some (.r (.int _ n)),some (.r (.int _ n'))=>match AT P e with
    |some ⟨_,sz,bytes,some zs⟩=>some ((n=n'∧0≤n∧n≤9223372036854775807∧n * bytes≤281474976710656∧0<sz∧zs.length=sz∧zs.all Value.oneCell'=true),.s st.n 0 n.toNat,C2 st (.lst e sz (List.replicate n.toNat (zs.map .r))))
    |_=>none
   |_,_,_=>none
 |_=>none
def B3 (x:Option (Prop×AV×AS))(k:AV→AS→Prop):Prop:=match x with
 |some (c,v,s)=>c∧k v s
 |none=>False
def F7 (x:Option AV)(k:AV→Prop):Prop:=match x with
 |some v=>k v
 |none=>False
def HE (f:Option AV)(x:Option (List AV))(k:Nat→List AV→Prop):Prop:=match f,x with
 |some (.fn g caps),some xs=>k g (xs++caps)
 |_,_=>False
theorem Rg (c:Prop)(v:AV)(s:AS)(k:AV→AS→Prop):B3 (some (c,v,s)) k=(c∧k v s):=rfl
theorem Re (v:AV)(k:AV→Prop):F7 (some v) k=k v:=rfl
theorem Rf (g:Nat)(caps xs:List AV)(k:Nat→List AV→Prop):HE (some (.fn g caps)) (some xs) k=k g (xs++caps):=rfl
@[congr] theorem Qj {x y:Option (Prop×AV×AS)} {k:AV→AS→Prop} (h:x=y):B3 x k=B3 y k:=by rw[h]
theorem D5 (P:Program)(G:List (Nat×List Value))(st:AS)(op:Op)(k:AV→AS→Prop)(h:B3 (Cj P G st op) k):LZ P G st op k:=by
 unfold Cj at h;unfold LZ;split at h
 ·split at h<;>(first |exact h.elim |(simp_all [B3];done) |(simp only[*];exact h))
 ·split at h<;>(first |exact h.elim |(simp_all [B3];done) |(simp only[*];exact h))
 ·split at h
  ·split at h
   ·split at h<;>(first |exact h.elim |(simp_all [B3];done) |(simp only[*];exact h))
   ·(first |exact h.elim |(simp_all [B3];done) |(simp only[*];exact h))
  ·(first |exact h.elim |(simp_all [B3];done) |(simp only[*];exact h))
 ·split at h
  ·split at h
   ·split at h<;>(first |exact h.elim |(simp_all [B3];done) |(simp only[*];exact h))
   ·split at h
    ·split at h<;>(first |exact h.elim |(simp_all [B3];done) |(simp only[*];exact h))
    ·(first |exact h.elim |(simp_all [B3];done) |(simp only[*];exact h))
   ·(first |exact h.elim |(simp_all [B3];done) |(simp only[*];exact h))
  ·(first |exact h.elim |(simp_all [B3];done) |(simp only[*];exact h))
 ·rename_i args ats
  cases hzz:GM P G st args ats with
  |some r=>simp only[hzz] at h ⊢;exact h
  |none=>
  simp only[hzz] at h ⊢;split at h
  ·split at h
   ·split at h
    ·split at h
     ·split at h
      ·(first |exact h.elim |(simp_all [B3];done) |(simp only[*];exact h))
      ·split at h<;>(first |exact h.elim |(simp_all [B3];done) |(simp only[*];exact h))
      ·(first |exact h.elim |(simp_all [B3];done) |(simp only[*];exact h))
     ·(first |exact h.elim |(simp_all [B3];done) |(simp only[*];exact h))
    ·(first |exact h.elim |(simp_all [B3];done) |(simp only[*];exact h))
   ·(first |exact h.elim |(simp_all [B3];done) |(simp only[*];exact h))
  ·(first |exact h.elim |(simp_all [B3];done) |(simp only[*];exact h))
 ·split at h
  ·split at h
   ·split at h
    ·split at h<;>(first |exact h.elim |(simp_all [B3];done) |(simp only[*];exact h))
    ·(first |exact h.elim |(simp_all [B3];done) |(simp only[*];exact h))
   ·(first |exact h.elim |(simp_all [B3];done) |(simp only[*];exact h))
  ·(first |exact h.elim |(simp_all [B3];done) |(simp only[*];exact h))
 ·split at h
  ·split at h<;>(first |exact h.elim |(simp_all [B3];done) |(simp only[*];exact h))
  ·(first |exact h.elim |(simp_all [B3];done) |(simp only[*];exact h))
 ·(first |exact h.elim |(simp_all [B3];done) |(simp only[*];exact h))
def EJ (P:Program)(G:List (Nat×List Value))(st:AS)(op:Op):Option (Prop×AV×AS):=match Cj P G st op with
 |some r=>some r
 |none=>E6 P G st op
theorem Dq {P:Program}{G:List (Nat×List Value)}{st:AS}{op:Op}{k:AV→AS→Prop}(h:B3 (EJ P G st op) k):B3 (Cj P G st op) k∨ ∃c v s,E6 P G st op=some (c,v,s)∧c∧k v s:=by
 unfold EJ at h;split at h
 ·rename_i r hr;rw[hr];exact .inl h
 ·cases hu:E6 P G st op with
  |none=>rw[hu] at h;exact h.elim
  |some r=>obtain⟨c,v,s⟩:=r;rw[hu] at h;exact .inr ⟨c,v,s,rfl,h⟩
section
variable {P:Program} {E:Env} {N:Nat} {st:AS} {th:List NLoc} {z:Ag} {a:Act} {w:World} {d:Option Nat} {t:TypeId} {pos:String} {aft:Array Edge} {g:Option (Nat×Bool)} {k:AV→AS→Prop}
theorem Fp (h:Sim E N st th z a w){T:TypeId}{len:Nat}{parts:Array (Nat×Operand)}(hk:B3 (EJ P E.G st (.buildSlice T len parts)) k):JZ P E N ⟨d,.buildSlice T len parts,t,pos,aft,g⟩ a w th [] st.m k true:=by
 rcases Dq hk with hk |⟨c,v,s,h1,h2,h3⟩
 ·exact IX h (D5 _ _ _ _ _ hk)
 ·exact MN h h1 h2 h3
theorem IY (h:Sim E N st th z a w){T:TypeId}{X V:Operand}(hk:B3 (EJ P E.G st (.store T X V)) k):JZ P E N ⟨d,.store T X V,t,pos,aft,g⟩ a w th (EN st E.G (.store T X V)) st.m k false:=by
 rcases Dq hk with hk |⟨c,v,s,h1,h2,h3⟩
 ·exact Ns h (D5 _ _ _ _ _ hk)
 ·exact MM h h1 h2 h3
theorem HA (h:Sim E N st th z a w){args:Array Operand}{ats:Array TypeId}(hk:B3 (EJ P E.G st (.call {callee:= .builtin .append,args:=args,argTypes:=ats})) k):JZ P E N ⟨d,.call {callee:= .builtin .append,args:=args,argTypes:=ats},t,pos,aft,g⟩ a w th (EN st E.G (.call {callee:= .builtin .append,args:=args,argTypes:=ats})) st.m k false:=by
 rcases Dq hk with hk |⟨c,v,s,h1,h2,h3⟩
 ·exact ML h (D5 _ _ _ _ _ hk)
 ·exact PA h h1 h2 h3
theorem EZ (h:Sim E N st th z a w){T:TypeId}{r:Option Operand}(hk:B3 (EJ P E.G st (.makeMap T r)) k):JZ P E N ⟨d,.makeMap T r,t,pos,aft,g⟩ a w th [] st.m k true:=by
 rcases Dq hk with hk |⟨c,v,s,h1,h2,h3⟩
 ·exact hk.elim
 ·exact KD h h1 h2 h3
theorem F4 (h:Sim E N st th z a w){T:TypeId}{M K V:Operand}(hk:B3 (EJ P E.G st (.mapUpdate T M K V)) k):JZ P E N ⟨d,.mapUpdate T M K V,t,pos,aft,g⟩ a w th (EN st E.G (.mapUpdate T M K V)) st.m k false:=by
 rcases Dq hk with hk |⟨c,v,s,h1,h2,h3⟩
 ·exact hk.elim
 ·exact IZ h h1 h2 h3
end
inductive GV where
 |yes |no |bad
 |ask (b w:Bool)
def Gb (ds:List (Option Nat))(st:AS):Option (Nat×Bool)→GV
 |none=> .yes
 |some (j,want)=>match ds[j]? with
  |some (some d)=>match lk st.m d with
   |some (.r (.bool b))=> .ask b want
   |some (.r (.tuple _))=> .no
   |_=> .bad
  |_=> .bad
def Eb (g:GV)(y n:Prop):Prop:=match g with
 | .yes=>y
 | .no=>n
 | .bad=>False
 | .ask b w=>(b=w→y)∧(b= !w→n)
@[congr] theorem QS {g g':GV} {y n:Prop} (h:g=g'):Eb g y n=Eb g' y n:=by rw[h]
theorem Rd (y n:Prop):Eb .yes y n=y:=rfl
theorem SM (y n:Prop):Eb .no y n=n:=rfl
def J6 (P:Program)(E:Env)(N:Nat)(st:AS)(op:Op)(k kp:AV→AS→Prop):Prop:=
 match op with
 | .call {callee:= .value f,args,..}=>HE (ev st E.G f) (Du st E.G args.toList) (fun g xs=>CallV P E N g xs st k kp)
 | .call {callee:= .builtin .append,args,argTypes}=>B3 (EJ P E.G st (.call {callee:= .builtin .append,args:=args,argTypes:=argTypes})) k
 | .call {callee:= .builtin .clear,args,argTypes}=>B3 (Cj P E.G st (.call {callee:= .builtin .clear,args:=args,argTypes:=argTypes})) k
 | .box T x=>B3 (Cj P E.G st (.box T x)) k
 | .alloc T=>B3 (Cj P E.G st (.alloc T)) k
 | .buildSlice T n ps=>B3 (EJ P E.G st (.buildSlice T n ps)) k
 | .store T x v=>B3 (EJ P E.G st (.store T x v)) k
 | .makeMap T r=>B3 (EJ P E.G st (.makeMap T r)) k
 | .mapUpdate T m i v=>B3 (EJ P E.G st (.mapUpdate T m i v)) k
 | .makeSlice T l c=>B3 (Cj P E.G st (.makeSlice T l c)) k
 | .panic x=>F7 (ev st E.G x) (fun v=>match v with
   | .ifc t v=>kp (.ifc t v) st
   |_=>False)
 |op=>F7 (qv P E.G st op) (fun v=>k v st)
def HK (P:Program)(E:Env)(N:Nat)(ds:List (Option Nat))(kp:AV→AS→Prop):List Oper→AS→(AS→Prop)→Prop
 | [],st,K=>K st
 |o::rest,st,K=>Eb (Gb ds st o.guard) (J6 P E N st o.op (fun v st'=>HK P E N ds kp rest (st'.put o.dst v) K) kp) (HK P E N ds kp rest (st.put o.dst (.r (.tuple #[]))) K)
def Cz (ops:Array Oper):List (Option Nat):=ops.toList.map (·.dst)
section
variable {P:Program} {E:Env} {N:Nat} {st:AS} {th:List NLoc} {z:Ag} {a:Act} {w:World}
theorem BK {o:Oper}{k:AV→AS→Prop}{b:Bool}{ts:List Nat}{next:Act→World→Prop}{Q:Exit→Act→World→Prop}(he:JZ P E N o a w th ts st.m k b)(hd: ∀i,o.dst=some i→i<N)
  (hn: ∀x st' th' z' a' w',k x st'→st'.m=st.m→Sim E N (st'.put o.dst x) th' z' a' w'→(b=true→Ext w w')→next a' w'):o.wp P a w next Q:=by
 obtain⟨v,x,st',th',z',w',hrun,hk,hs,hr,hm,hx,_,_⟩:=he;unfold Oper.wp
 rcases hrun with hrun |⟨hrun,rfl⟩
 ·rw[hrun,Oper.upon_value];exact hn x st' th' z' _ w' hk hm (hs.put hr o.dst hd) hx
 ·rw[hrun,Oper.upon_skip];exact hn x st' th' z' _ w' hk hm (hs.put hr o.dst hd) hx
theorem Sim.eval_r (h:Sim E N st th z a w){x:Operand}{v:Value}(he:ev st E.G x=some (.r v)):a.eval x=v:=(AN h he).r_inv
theorem Gt (h:Sim E N st th z a w)(o:Oper){k kp:AV→AS→Prop}(hk:J6 P E N st o.op k kp)(hd: ∀i,o.dst=some i→i<N){next:Act→World→Prop}{Q:Exit→Act→World→Prop}
  (hn: ∀x st' th' z' a' w',k x st'→Sim E N (st'.put o.dst x) th' z' a' w'→next a' w') (hp: ∀x v st' th' z' w',kp x st'→Sim E N st' th' z' a w'→Rep w' z' th' x v→Q (.panic [{v:=v,recovered:=false}]) a w'):o.wp P a w next Q:=by
 obtain⟨dst,op,ty,pos,aft,gd⟩:=o;simp only at hk;unfold J6 at hk;split at hk
 ·rename_i f args ats
  unfold HE at hk;split at hk
  ·rename_i g caps xs hf hx
   obtain⟨hok,hc⟩:=hk;have hf':=AN h hf;generalize hv:a.eval f=fv at hf'
   cases hf' with
   |fn _ _ _ ys hl hxx=>
    have hr:=(Bs h hx).append ⟨hl,hxx⟩;have hcall:=hc th z a w _ h hr;unfold Oper.wp
    have hrun:(execOp a.eval ⟨dst,.call {callee:= .value f,args:=args,argTypes:=ats},ty,pos,aft,gd⟩).run P w= .ok (.enter g (List.map a.eval args.toList++ys).toArray) w:=by
     simp only[execOp,resolve,hv,Deferred.ofValue,Sem.run_bind,Sem.run_pure,Result.andThen_ok,invoke];rw[EO hok]
     congr 2
     apply Array.ext';simp
    rw[hrun,Oper.upon_enter];refine hcall.mono ?_;rintro e w' ⟨v,x,st',th',z',hh,hm,hs,hrr⟩
    rcases hh with ⟨rfl,hk⟩ |⟨rfl,hk⟩
    ·exact hn x st' th' z' _ w' hk (hs.put hrr dst hd)
    ·exact hp x v st' th' z' w' hk hs hrr
  ·exact hk.elim
 ·exact BK (HA h hk) hd (fun x st' th' z' a' w' h1 _ h2 _=>hn x st' th' z' a' w' h1 h2)
 ·exact BK (JV h (D5 _ _ _ _ _ hk)) hd (fun x st' th' z' a' w' h1 _ h2 _=>hn x st' th' z' a' w' h1 h2)
 ·exact BK (KC h (D5 _ _ _ _ _ hk)) hd (fun x st' th' z' a' w' h1 _ h2 _=>hn x st' th' z' a' w' h1 h2)
 ·exact BK (Gl h (D5 _ _ _ _ _ hk)) hd (fun x st' th' z' a' w' h1 _ h2 _=>hn x st' th' z' a' w' h1 h2)
 ·exact BK (Fp h hk) hd (fun x st' th' z' a' w' h1 _ h2 _=>hn x st' th' z' a' w' h1 h2)
 ·exact BK (IY h hk) hd (fun x st' th' z' a' w' h1 _ h2 _=>hn x st' th' z' a' w' h1 h2)
 ·exact BK (EZ h hk) hd (fun x st' th' z' a' w' h1 _ h2 _=>hn x st' th' z' a' w' h1 h2)
 ·exact BK (F4 h hk) hd (fun x st' th' z' a' w' h1 _ h2 _=>hn x st' th' z' a' w' h1 h2)
 ·exact BK (E5 h (D5 _ _ _ _ _ hk)) hd (fun x st' th' z' a' w' h1 _ h2 _=>hn x st' th' z' a' w' h1 h2)
 ·rename_i px
  unfold F7 at hk;split at hk;rotate_left
  ·exact hk.elim
  rename_i vx he;split at hk
  ·rename_i t v
   have hr:=AN h he;generalize hv:a.eval px=fv at hr
   cases hr with
   |ifc _ _ _ u hu=>
    unfold Oper.wp
    have hrun:(execOp a.eval ⟨dst,.panic px,ty,pos,aft,gd⟩).run P w= .halt (.panic (.iface t u)) w:=by
     simp only[execOp,hv,Instr.panic];rfl
    rw[hrun,Oper.upon_panic];exact hp _ _ st th z w hk h (.ifc th t v u hu)
  ·exact hk.elim
 ·unfold F7 at hk
  split at hk
  ·rename_i v hq
   obtain⟨u,hr,hrun⟩:=Eo h ⟨dst,op,ty,pos,aft,gd⟩ hq;unfold Oper.wp;rw[hrun w SameK.refl,Oper.upon_value];exact hn v st th z _ w hk (h.put hr dst hd)
  ·exact hk.elim
theorem J_ (h:Sim E N st th z a w){ops:Array Oper}{j d:Nat}(hd:(ops[j]?).bind (·.dst)=some d){b:Bool}(hl:lk st.m d=some (.r (.bool b))):yielded ops a.tmps j=some b:=by
 obtain⟨y,hy,hr⟩:=h.slots d _ hl;have:=hr.r_inv;subst this;simp[yielded,hd,hy]
theorem Ir (h:Sim E N st th z a w){ops:Array Oper}{j d:Nat}(hd:(ops[j]?).bind (·.dst)=some d){vs:Array Value}(hl:lk st.m d=some (.r (.tuple vs))):yielded ops a.tmps j=none:=by
 obtain⟨y,hy,hr⟩:=h.slots d _ hl;have:=hr.r_inv;subst this;simp[yielded,hd,hy]
theorem QT {b w:Bool}(h: ¬b=w):b= !w:=by cases b<;>cases w<;>simp at h ⊢
theorem Ez (h:Sim E N st th z a w){ops:Array Oper}{o:Oper}{y n:Prop}(hx:Eb (Gb (Cz ops) st o.guard) y n):(Region.wanted o (yielded ops a.tmps)=true∧y)∨(Region.wanted o (yielded ops a.tmps)=false∧n):=by
 generalize hg:o.guard=g at hx
 cases g with
 |none=>exact .inl ⟨by simp[Region.wanted,hg],hx⟩
 |some p=>
  obtain⟨j,want⟩:=p;unfold Gb at hx;simp only at hx
  have hds:(Cz ops)[j]?=(ops[j]?).map (·.dst):=by simp[Cz]
  rw[hds] at hx
  cases ho:ops[j]? with
  |none=>rw[ho] at hx;exact hx.elim
  |some oj=>
   rw[ho] at hx;simp only[Option.map_some] at hx
   cases hd:oj.dst with
   |none=>rw[hd] at hx;exact hx.elim
   |some d=>
   rw[hd] at hx
   have hdj:(ops[j]?).bind (·.dst)=some d:=by rw[ho];exact hd
   simp only at hx;split at hx
   ·rename_i b hl
    have hy:=J_ h hdj hl
    by_cases hb:b=want
    ·exact .inl ⟨by simp[Region.wanted,hg,hy,hb],hx.1 hb⟩
    ·exact .inr ⟨by simp[Region.wanted,hg,hy,hb],hx.2 (QT hb)⟩
   ·rename_i vs hl
    have hy:=Ir h hdj hl;exact .inr ⟨by simp[Region.wanted,hg,hy],hx⟩
   ·exact hx.elim
theorem Cq {ops:Array Oper}{kp:AV→AS→Prop}{Q:Exit→Act→World→Prop}{K:AS→Prop}(hp: ∀x v st' th' z' a' w',kp x st'→Sim E N st' th' z' a' w'→Rep w' z' th' x v→Q (.panic [{v:=v,recovered:=false}]) a' w')
  (hK: ∀st' th' z' a' w',K st'→Sim E N st' th' z' a' w'→Q .normal a' w'): ∀(l:List Oper),(∀o ∈ l,∀i,o.dst=some i→i<N)→ ∀ {st:AS}{th:List NLoc}{z:Ag}{a:Act}{w:World},Sim E N st th z a w→HK P E N (Cz ops) kp l st K→wpList P ops Q l a w
 | [],_,st,th,z,a,w,h,hx=>hK st th z a w hx h
 |o::rest,hd,st,th,z,a,w,h,hx=>by
  have ih: ∀ {st:AS}{th:List NLoc}{z:Ag}{a:Act}{w:World},Sim E N st th z a w→HK P E N (Cz ops) kp rest st K→wpList P ops Q rest a w:=Cq hp hK rest (fun o ho=>hd o (by simp[ho]));have hdo:=hd o (by simp);have go:J6 P E N st o.op (fun v st'=>HK P E N (Cz ops) kp rest (st'.put o.dst v) K) kp→o.wp P a w (wpList P ops Q rest) Q:=fun hs=>
   Gt h o hs hdo (fun x st' th' z' a' w' h1 h2=>ih h2 h1) (fun x v st' th' z' w' h1 h2 h3=>hp x v st' th' z' a w' h1 h2 h3)
  have skip:HK P E N (Cz ops) kp rest (st.put o.dst (.r (.tuple #[]))) K→wpList P ops Q rest (a.put o.dst undef) w:=fun hs=>ih (h.put (.r th undef) o.dst hdo) hs;unfold HK at hx;unfold wpList
  rcases Ez h hx with ⟨hw,hs⟩ |⟨hw,hs⟩
  ·rw[if_pos hw];exact .inl (go hs)
  ·rw[if_neg (by rw[hw];exact Bool.false_ne_true)];exact skip hs
inductive AExit where
 |normal
 |exit (id:Nat)
 |ret
 |pan (v:AV)
def Tu (E:Env)(N:Nat)(Q:Exit→Act→World→Prop)(AQ:AExit→AS→Prop):Prop:=
 (∀st th z a w,AQ .normal st→Sim E N st th z a w→Q .normal a w)∧(∀id st th z a w,AQ (.exit id) st→Sim E N st th z a w→Q (.exit id) a w)∧(∀st th z a w,AQ .ret st→Sim E N st th z a w→Q .ret a w)∧
  ∀x v st th z w,AQ (.pan x) st→Mem E st.o st.n th z w→Rep w z th x v→ ∀a:Act,a.defers=E.ds→Q (.panic [{v:=v,recovered:=false}]) a w
def AWP (P:Program)(E:Env)(N:Nat)(c:Code)(st:AS)(AQ:AExit→AS→Prop):Prop:=
 ∀Q,Tu E N Q AQ→ ∀th z a w,Sim E N st th z a w→c.wp P Q a w
def E2 (N:Nat)(ops:Array Oper):Bool:=ops.all fun o=>match o.dst with |some d=>decide (d<N) |none=>true
theorem Dr {ops:Array Oper}(h:E2 N ops=true): ∀o ∈ ops.toList,∀i,o.dst=some i→i<N:=by
 intro o ho i hi;simp only[E2,Array.all_eq_true',Array.mem_def] at h;have:=h o ho;rw[hi] at this;simpa using this
variable {AQ:AExit→AS→Prop}
theorem MZ {id:Nat}{ops:Array Oper}{ds:List (Option Nat)}{l:List Oper}(hd:E2 N ops=true)(hds:Cz ops=ds)(hl:ops.toList=l)(h:HK P E N ds (fun x st=>AQ (.pan x) st) l st (AQ .normal)):AWP P E N (.region id ops false) st AQ:=by
 subst hds hl;exact fun _ hQ _ _ _ _ hs=>wp_region_list (Cq (fun x v st' th' z' a' w' h1 h2 h3=>hQ.2.2.2 x v st' th' z' w' h1 h2.mem h3 a' h2.dfs) (fun st' th' z' a' w' h1 h2=>hQ.1 st' th' z' a' w' h1 h2) ops.toList (Dr hd) hs h)
theorem A3 (h:AQ .normal st):AWP P E N .skip st AQ:=fun _ hQ th z a w hs=>wp_skip (hQ.1 st th z a w h hs)
theorem A5 {id:Nat}(h:AQ (.exit id) st):AWP P E N (.exit id) st AQ:=fun _ hQ th z a w hs=>wp_exit (hQ.2.1 id st th z a w h hs)
theorem A7 (h:AQ .ret st):AWP P E N .ret st AQ:=fun _ hQ th z a w hs=>wp_ret (hQ.2.2.1 st th z a w h hs)
def Ek (K:AS→Prop)(AQ:AExit→AS→Prop):AExit→AS→Prop
 | .normal,st=>K st
 |e,st=>AQ e st
def Gn (id:Nat)(AQ:AExit→AS→Prop):AExit→AS→Prop
 | .exit id',st=>match Nat.beq id' id with
   |true=>AQ .normal st
   |false=>AQ (.exit id') st
 |e,st=>AQ e st
theorem A6 {x y:Code}(h:AWP P E N x st (Ek (fun st'=>AWP P E N y st' AQ) AQ)):AWP P E N (.seq x y) st AQ:=by
 intro Q hQ th z a w hs;refine wp_seq (h _ ⟨?_,?_,?_,?_⟩ th z a w hs)
 ·intro st' th' z' a' w' h1 h2;exact h1 Q hQ th' z' a' w' h2
 ·intro id st' th' z' a' w' h1 h2;exact hQ.2.1 id st' th' z' a' w' h1 h2
 ·intro st' th' z' a' w' h1 h2;exact hQ.2.2.1 st' th' z' a' w' h1 h2
 ·intro x v st' th' z' w' h1 h2 h3 a' h4;exact hQ.2.2.2 x v st' th' z' w' h1 h2 h3 a' h4
theorem AWP.mono {c:Code}{AQ':AExit→AS→Prop}(h:AWP P E N c st AQ)(hq: ∀e st,AQ e st→AQ' e st):AWP P E N c st AQ':=fun Q hQ=>
 h Q ⟨fun st th z a w h1 h2=>hQ.1 st th z a w (hq _ _ h1) h2,fun id st th z a w h1 h2=>hQ.2.1 id st th z a w (hq _ _ h1) h2,fun st th z a w h1 h2=>hQ.2.2.1 st th z a w (hq _ _ h1) h2,fun x v st th z w h1 h2 h3 a h4=>hQ.2.2.2 x v st th z w (hq _ _ h1) h2 h3 a h4⟩
theorem A2 {id:Nat}{c:Code}(h:AWP P E N c st (Gn id AQ)):AWP P E N (.block id c) st AQ:=by
 intro Q hQ th z a w hs;refine wp_block (h _ ⟨?_,?_,?_,?_⟩ th z a w hs)
 ·intro st' th' z' a' w' h1 h2;exact hQ.1 st' th' z' a' w' h1 h2
 ·intro id' st' th' z' a' w' h1 h2
  simp only[Gn] at h1;simp only[Exit.inBlock];split at h1
  ·rename_i e;rw[if_pos (Nat.eq_of_beq_eq_true e)];exact hQ.1 st' th' z' a' w' h1 h2
  ·rename_i e;rw[if_neg (Nat.ne_of_beq_eq_false e)];exact hQ.2.1 id' st' th' z' a' w' h1 h2
 ·intro st' th' z' a' w' h1 h2;exact hQ.2.2.1 st' th' z' a' w' h1 h2
 ·intro x v st' th' z' w' h1 h2 h3 a' h4;exact hQ.2.2.2 x v st' th' z' w' h1 h2 h3 a' h4
theorem A4 {c:Operand}{x y:Code}{b:Bool}(hc:ev st E.G c=some (.r (.bool b)))(ht:b=true→AWP P E N x st AQ)(hf:b=false→AWP P E N y st AQ):AWP P E N (.cond c x y) st AQ:=by
 intro Q hQ th z a w hs;exact wp_cond_split (hs.eval_r hc) (fun h=>ht h Q hQ th z a w hs) (fun h=>hf h Q hQ th z a w hs)
theorem A0 {c:Operand}{x y:Code}(hc:ev st E.G c=some (.r (.bool true)))(ht:AWP P E N x st AQ):AWP P E N (.cond c x y) st AQ:=A4 hc (fun _=>ht) (fun h=>by cases h)
theorem A1 {c:Operand}{x y:Code}(hc:ev st E.G c=some (.r (.bool false)))(hf:AWP P E N y st AQ):AWP P E N (.cond c x y) st AQ:=A4 hc (fun h=>by cases h) (fun _=>hf)
end
end Go.AM
namespace Go.AM
open Go
mutual
def ren (f:Nat→Nat):AV→AV
 | .s n lo len=> .s (f n) lo len
 | .p n i off=> .p (f n) i off
 | .agg c=> .agg (renL f c)
 | .tup c=> .tup (renL f c)
 | .fn g c=> .fn g (renL f c)
 | .ifc t x=> .ifc t (ren f x)
 | .r v=> .r v
 | .ro t k els=> .ro t k els
 | .re t c off=> .re t c off
 | .q n=> .q (f n)
 | .u T k els=> .u T k els
 | .any=> .any
def renL (f:Nat→Nat):List AV→List AV
 | []=>[]
 |x::r=>ren f x::renL f r
end
def Hp (f:Nat→Nat):List (Nat×Nat×AV)→List (Nat×Nat×AV)
 | []=>[]
 |(i,j,x)::r=>(i,j,ren f x)::Hp f r
def A9 (f:Nat→Nat):Nd→Nd
 | .box T c=> .box T (renL f c)
 | .lst T k els=> .lst T k els
 | .ul T k els op=> .ul T k els (Hp f op)
 | .mp l=> .mp l
theorem K4 (f:Nat→Nat): ∀(op:List (Nat×Nat×AV))(i j:Nat),EC (Hp f op) i j=(EC op i j).map (ren f)
 | [],i,j=>rfl
 |(p,q,x)::r,i,j=>by
  simp only[Hp,EC];split
  ·rfl
  ·exact K4 f r i j
theorem D1 (f:Nat→Nat): ∀(c:List AV)(i:Nat),(renL f c)[i]?=(c[i]?).map (ren f)
 | [],i=>by simp[renL]
 |x::r,0=>by simp[renL]
 |x::r,i+1=>by simp[renL,D1 f r i]
theorem C8 (f:Nat→Nat): ∀c:List AV,(renL f c).length=c.length
 | []=>rfl
 |x::r=>by simp[renL,C8 f r]
section
variable {w:World} {z:Ag}
theorem Rep.unren {f:Nat→Nat}{th th':List NLoc}{y:AV}{v:Value}(h:Rep w z th y v)(hf: ∀(i:Nat) L,th[f i]?=some L→th'[i]?=some L): ∀x,y=ren f x→Rep w z th' x v:=by
 induction h with
 |r th v=>intro x hx;cases x<;>simp[ren] at hx;subst hx;exact .r _ _
 |nil th t k a c=>intro x hx;cases x<;>simp[ren] at hx;obtain⟨rfl,rfl,rfl⟩:=hx;exact .nil _ _ _ _ _
 |ro th t k els b o c ys hz hc hk hy h1 hx ih=>intro x hx';cases x<;>simp[ren] at hx';obtain⟨rfl,rfl,rfl⟩:=hx';exact .ro _ _ _ _ b o c ys hz hc hk hy h1 hx
 |re th t c b o off ys hz hy hx ih=>intro x hx';cases x<;>simp[ren] at hx';obtain⟨rfl,rfl,rfl⟩:=hx';exact .re _ _ _ b o _ ys hz hy hx
 |s th n lo len c o L hL hp hl hc ho=>intro x hx;cases x<;>simp[ren] at hx;obtain⟨rfl,rfl,rfl⟩:=hx;exact .s _ _ _ _ c o L (hf _ _ hL) hp hl hc ho
 |sn th n lo L hL hp=>intro x hx;cases x<;>simp[ren] at hx;obtain⟨rfl,rfl,rfl⟩:=hx;exact .sn _ _ _ L (hf _ _ hL) hp
 |p th n i off L hL=>intro x hx;cases x<;>simp[ren] at hx;obtain⟨rfl,rfl,rfl⟩:=hx;exact .p _ _ _ _ L (hf _ _ hL)
 |agg th c ys hl hx ih=>
  intro x hx';cases x<;>simp[ren] at hx';subst hx'
  refine .agg _ _ ys (by rw[hl,C8]) (fun i x y h1 h2=>ih i (ren f x) y (by rw[D1,h1];rfl) h2 hf x rfl)
 |tup th c ys hl hx ih=>
  intro x hx';cases x<;>simp[ren] at hx';subst hx'
  refine .tup _ _ ys (by rw[hl,C8]) (fun i x y h1 h2=>ih i (ren f x) y (by rw[D1,h1];rfl) h2 hf x rfl)
 |fn th g c ys hl hx ih=>
  intro x hx';cases x<;>simp[ren] at hx';obtain⟨rfl,rfl⟩:=hx'
  refine .fn _ _ _ ys (by rw[hl,C8]) (fun i x y h1 h2=>ih i (ren f x) y (by rw[D1,h1];rfl) h2 hf x rfl)
 |ifc th t y v hx ih=>
  intro x hx';cases x<;>simp[ren] at hx';obtain⟨rfl,rfl⟩:=hx'
  exact .ifc _ _ _ _ (ih hf _ rfl)
 |q th n L hL=>intro x hx;cases x<;>simp[ren] at hx;subst hx;exact .q _ _ L (hf _ _ hL)
 |any th v=>intro x hx;cases x<;>simp[ren] at hx;exact .any _ _
theorem Rep.ren {f:Nat→Nat}{th th':List NLoc}{x:AV}{v:Value}(h:Rep w z th x v)(hf: ∀(i:Nat) L,th[i]?=some L→th'[f i]?=some L):Rep w z th' (ren f x) v:=by
 induction h with
 |r th v=>exact .r _ _
 |nil th t k a c=>exact .nil _ _ _ _ _
 |ro th t k els b o c ys hz hc hk hy h1 hx ih=>exact .ro _ _ _ _ b o c ys hz hc hk hy h1 hx
 |re th t c b o off ys hz hy hx ih=>exact .re _ _ _ b o _ ys hz hy hx
 |s th n lo len c o L hL hp hl hc ho=>exact .s _ _ _ _ c o L (hf _ _ hL) hp hl hc ho
 |sn th n lo L hL hp=>exact .sn _ _ _ L (hf _ _ hL) hp
 |p th n i off L hL=>exact .p _ _ _ _ L (hf _ _ hL)
 |agg th c ys hl hx ih=>
  refine .agg _ _ ys (by rw[hl,C8]) (fun i x y h1 h2=>?_);rw[D1,Option.map_eq_some_iff] at h1;obtain⟨x',h3,rfl⟩:=h1;exact ih i x' y h3 h2 hf
 |tup th c ys hl hx ih=>
  refine .tup _ _ ys (by rw[hl,C8]) (fun i x y h1 h2=>?_);rw[D1,Option.map_eq_some_iff] at h1;obtain⟨x',h3,rfl⟩:=h1;exact ih i x' y h3 h2 hf
 |fn th g c ys hl hx ih=>
  refine .fn _ _ _ ys (by rw[hl,C8]) (fun i x y h1 h2=>?_);rw[D1,Option.map_eq_some_iff] at h1;obtain⟨x',h3,rfl⟩:=h1;exact ih i x' y h3 h2 hf
 |ifc th t y v hx ih=>exact .ifc _ _ _ _ (ih hf)
 |q th n L hL=>exact .q _ _ L (hf _ _ hL)
 |any th v=>exact .any _ _
theorem Reps.unren {f:Nat→Nat}{th th':List NLoc}{c:List AV}{ys:List Value}(h:Reps w z th (renL f c) ys)(hf: ∀(i:Nat) L,th[f i]?=some L→th'[i]?=some L):Reps w z th' c ys:=
 ⟨by rw[h.1,C8],fun i x y h1 h2=>(h.2 i (Go.AM.ren f x) y (by rw[D1,h1];rfl) h2).unren hf x rfl⟩
theorem Reps.ren {f:Nat→Nat}{th th':List NLoc}{c:List AV}{ys:List Value}(h:Reps w z th c ys)(hf: ∀(i:Nat) L,th[i]?=some L→th'[f i]?=some L):Reps w z th' (renL f c) ys:=by
 refine⟨by rw[h.1,C8],fun i x y h1 h2=>?_⟩;rw[D1,Option.map_eq_some_iff] at h1;obtain⟨x',h3,rfl⟩:=h1;exact(h.2 i x' y h3 h2).ren hf
theorem NdAt.unren {f:Nat→Nat}{th th':List NLoc}{L:NLoc}{nd:Nd}(h:NdAt w z th L (A9 f nd))(hf: ∀(i:Nat) L,th[f i]?=some L→th'[i]?=some L):NdAt w z th' L nd:=by
 cases nd with
 |box T c=>obtain⟨hp,cells,fr,h1,h2,h3,h4⟩:=h;exact⟨hp,cells,fr,h1,h2,h3,h4.unren hf⟩
 |lst T k els=>exact h
 |ul T k els op=>exact h
 |mp l=>exact h
theorem NdAt.ren {f:Nat→Nat}{th th':List NLoc}{L:NLoc}{nd:Nd}(h:NdAt w z th L nd)(hf: ∀(i:Nat) L,th[i]?=some L→th'[f i]?=some L):NdAt w z th' L (A9 f nd):=by
 cases nd with
 |box T c=>obtain⟨hp,cells,fr,h1,h2,h3,h4⟩:=h;exact⟨hp,cells,fr,h1,h2,h3,h4.ren hf⟩
 |lst T k els=>exact h
 |ul T k els op=>exact h
 |mp l=>exact h
theorem UlAt.unren {f:Nat→Nat}{th th':List NLoc}{U:Nat→Prop}{L:NLoc}{els:List (List AV)}{op:List (Nat×Nat×AV)}(h:UlAt w z th U L els (Hp f op))(hf: ∀(i:Nat) L,th[f i]?=some L→th'[i]?=some L):UlAt w z th' U L els op:=by
 obtain⟨F,h1,h2,h3⟩:=h;refine⟨F,h1,h2,fun i e he j x hx=>?_⟩;obtain⟨y,hy,ho,hc⟩:=h3 i e he j x hx;refine⟨y,hy,ho,?_⟩;unfold CellU at hc ⊢;rw[K4] at hc
 cases hl:EC op i j with
 |some x'=>rw[hl] at hc;exact Rep.unren hc hf x' rfl
 |none=>rw[hl] at hc;exact hc
theorem UlAt.ren {f:Nat→Nat}{th th':List NLoc}{U:Nat→Prop}{L:NLoc}{els:List (List AV)}{op:List (Nat×Nat×AV)}(h:UlAt w z th U L els op)(hf: ∀(i:Nat) L,th[i]?=some L→th'[f i]?=some L):UlAt w z th' U L els (Hp f op):=by
 obtain⟨F,h1,h2,h3⟩:=h;refine⟨F,h1,h2,fun i e he j x hx=>?_⟩;obtain⟨y,hy,ho,hc⟩:=h3 i e he j x hx;refine⟨y,hy,ho,?_⟩;unfold CellU at hc ⊢;rw[K4]
 cases hl:EC op i j with
 |some x'=>rw[hl] at hc;exact Rep.ren hc hf
 |none=>rw[hl] at hc;exact hc
end
def AG (ρ:List Nat)(i:Nat):Nat:=match ρ[i]? with
 |some j=>j
 |none=>i+1000000000
section
variable {P:Program} {E:Env} {N:Nat} {st:AS} {th:List NLoc} {z:Ag} {a:Act} {w:World}
def Emb (E:Env)(N:Nat)(st st':AS):Prop:= ∀th z a w,Sim E N st th z a w→ ∃th' z',Sim E N st' th' z' a w
def AH (ρ:List Nat)(o o':List (Nat×Nd)):Prop:= ∀p ∈ o',∃j,ρ[p.1]?=some j∧lk o j=some (A9 (AG ρ) p.2)
def Bi (ρ:List Nat)(m m':List (Nat×AV)):Prop:= ∀p ∈ m',lk m p.1=some (ren (AG ρ) p.2)
theorem CG {α:Type}: ∀ {o:List (Nat×α)}{i:Nat}{x:α},lk o i=some x→(i,x) ∈ o
 | [],_,_,h=>by simp[lk] at h
 |(j,y)::r,i,x,h=>by
  simp only[lk] at h;split at h
  ·rename_i e;subst e;cases h;simp
  ·exact List.mem_cons_of_mem _ (CG h)
def DL (th:List NLoc)(ρ:List Nat):List NLoc:=ρ.map fun j=>(th[j]?).getD ⟨0,0,0,0,false⟩
theorem BE {ρ:List Nat}(hr: ∀j ∈ ρ,j<th.length){i j:Nat}(h:ρ[i]?=some j):(DL th ρ)[i]?=th[j]?:=by
 have:=hr j (List.mem_of_getElem? h);simp[DL,h,this]
theorem DI {ρ:List Nat}(hr: ∀j ∈ ρ,j<th.length)(hb:th.length≤1000000000)(i:Nat)(L:NLoc)(h:th[AG ρ i]?=some L):(DL th ρ)[i]?=some L:=by
 unfold AG at h;split at h
 ·rename_i j hj;rw[BE hr hj];exact h
 ·have:=(List.getElem?_eq_some_iff.1 h).1;omega
theorem UlOK.ren {U:Nat→Nat→Prop}{o o':List (Nat×Nd)}(hU:UlOK U E o th z w){ρ:List Nat}(hr': ∀j ∈ ρ,j<th.length)(hb':th.length≤1000000000)(hnd:ρ.Nodup)(get: ∀i nd,lk o' i=some nd→ ∃j,ρ[i]?=some j∧lk o j=some (A9 (AG ρ) nd)):
  UlOK (fun i b=> ∃j,ρ[i]?=some j∧U j b) E o' (DL th ρ) z w:=by
 refine⟨fun i T k els op L hi hL=>?_,fun i b ⟨j,_,hb⟩=>hU.lt j b hb,fun i b ⟨j,_,hb⟩=>hU.nz j b hb,fun i b ⟨j,_,hb⟩=>hU.ow j b hb,fun i i' b ⟨j,hj,hb⟩ ⟨j',hj',hb'⟩=>?_,fun i nd L q hi hL hp ⟨j',_,hb⟩=>?_⟩
 ·obtain⟨j,hj,hnd'⟩:=get i _ hi
  rw[BE hr' hj] at hL;obtain⟨F,h1,h2,h3⟩:=(hU.at_ j T k els _ L hnd' hL).unren (DI hr' hb');exact⟨F,fun a b c hc=>⟨j,hj,h1 a b c hc⟩,h2,h3⟩
 ·have:=hU.inj j j' b hb hb'
  subst this;obtain⟨l1,e1⟩:=List.getElem?_eq_some_iff.1 hj;exact(List.getElem?_inj l1 hnd).1 (hj.trans hj'.symm)
 ·obtain⟨j,hj,hnd'⟩:=get i _ hi
  rw[BE hr' hj] at hL;exact hU.kn j _ L j' hnd' hL hp hb
theorem Mem.ren {o o':List (Nat×Nd)}{n:Nat}(h:Mem E o n th z w)(ρ:List Nat)(hr: ∀j ∈ ρ,j<n)(hb:n≤1000000000)(ho:AH ρ o o')(hpre: ∀i,i<E.th0.length→ρ[i]?=some i)(hnd:ρ.Nodup):Mem E o' ρ.length (DL th ρ) z w:=by
 have hr': ∀j ∈ ρ,j<th.length:=fun j hj=>by rw[h.len];exact hr j hj
 have hb':th.length≤1000000000:=by rw[h.len];exact hb
 have get: ∀i nd,lk o' i=some nd→ ∃j,ρ[i]?=some j∧lk o j=some (A9 (AG ρ) nd):=fun i nd hi=>ho _ (CG hi);refine⟨by simp[DL],fun i nd hi=>?_,fun i i' x y L M hi hi' hL hM e1 e2 hbb=>?_,h.zlt,h.grow,h.frame,h.zin,h.zout,h.zb,h.globs,fun i L hi=>?_,h.sys,?_⟩
 ·obtain⟨j,hj,hnd⟩:=get i nd hi
  obtain⟨L,k1,k2,k3⟩:=h.nds j _ hnd;exact⟨L,by rw[BE hr' hj];exact k1,k2.unren (DI hr' hb'),k3⟩
 ·obtain⟨j,hj,hx⟩:=get i x hi
  obtain⟨j',hj',hy⟩:=get i' y hi';rw[BE hr' hj] at hL;rw[BE hr' hj'] at hM;have:=h.inj j j' _ _ L M hx hy hL hM e1 e2 hbb;subst this;obtain⟨l1,e1⟩:=List.getElem?_eq_some_iff.1 hj;obtain⟨l2,e2⟩:=List.getElem?_eq_some_iff.1 hj';exact(List.getElem?_inj l1 hnd).1 (hj.trans hj'.symm)
 ·have hi':i<E.th0.length:=(List.getElem?_eq_some_iff.1 hi).1
  rw[BE hr' (hpre i hi')];exact h.pre i L hi
 ·obtain⟨U,hU⟩:=h.uls
  exact⟨_,hU.ren hr' hb' hnd get⟩
theorem emb (ρ:List Nat){st st':AS}(hm:Bi ρ st.m st'.m)(ho:AH ρ st.o st'.o)(hn:st'.n=ρ.length)(hr: ∀j ∈ ρ,j<st.n)(hb:st.n≤1000000000)(hpre: ∀i,i<E.th0.length→ρ[i]?=some i)(hnd:ρ.Nodup):Emb E N st st':=by
 intro th z a w h;refine⟨DL th ρ,z,?_,h.size,h.dfs,fun i x hi=>?_⟩
 ·rw[hn];exact h.mem.ren ρ hr hb ho hpre hnd
 ·obtain⟨y,hy,hrep⟩:=h.slots i _ (hm _ (CG hi))
  exact⟨y,hy,hrep.unren (DI (fun j hj=>by rw[h.mem.len];exact hr j hj) (by rw[h.mem.len];exact hb)) x rfl⟩
def memB (i:Nat):List Nat→Bool
 | []=>false
 |x::r=>Nat.beq x i||memB i r
def U6:List Nat→Bool
 | []=>true
 |x::r=> !memB x r&&U6 r
def U8 (n:Nat):List Nat→Bool
 | []=>true
 |x::r=>Nat.blt x n&&U8 n r
def OZ:Nat→Nat→List Nat→Bool
 |0,_,_=>true
 |_+1,_,[]=>false
 |k+1,i,x::r=>Nat.beq x i&&OZ k (i+1) r
def Pi (k:Nat)(ρ:List Nat)(n m:Nat):Bool:=OZ k 0 ρ&&(U6 ρ&&(U8 n ρ&&(Nat.ble n 1000000000&&Nat.beq m ρ.length)))
theorem JI {i:Nat}: ∀ {l:List Nat},memB i l=false→i ∉ l
 | [],_,h=>by cases h
 |x::r,hb,h=>by
  simp only[memB,Bool.or_eq_false_iff] at hb
  rcases List.mem_cons.1 h with rfl |h
  ·have:=hb.1;simp at this
  ·exact JI hb.2 h
theorem Kx: ∀ {l:List Nat},U6 l=true→l.Nodup
 | [],_=>List.nodup_nil
 |x::r,h=>by
  simp only[U6,Bool.and_eq_true,Bool.not_eq_true'] at h;exact List.nodup_cons.2 ⟨JI h.1,Kx h.2⟩
theorem L5 {n:Nat}: ∀ {l:List Nat},U8 n l=true→ ∀j ∈ l,j<n
 | [],_,j,h=>by cases h
 |x::r,hb,j,h=>by
  simp only[U8,Bool.and_eq_true] at hb
  rcases List.mem_cons.1 h with rfl |h
  ·simpa using hb.1
  ·exact L5 hb.2 j h
theorem JD: ∀ {k i:Nat}{l:List Nat},OZ k i l=true→ ∀j,j<k→l[j]?=some (i+j)
 |0,_,_,_,j,h=>by omega
 |_+1,_,[],hb,j,h=>by simp[OZ] at hb
 |k+1,i,x::r,hb,j,h=>by
  simp only[OZ,Bool.and_eq_true] at hb
  have hx:x=i:=by simpa using hb.1
  cases j with
  |zero=>simp[hx]
  |succ j=>
   have:=JD hb.2 j (by omega);rw[List.getElem?_cons_succ,this];congr 1;omega
theorem JB {k n m:Nat}{ρ:List Nat}(h:Pi k ρ n m=true):(∀i,i<k→ρ[i]?=some i)∧ρ.Nodup∧(∀j ∈ ρ,j<n)∧n≤1000000000∧m=ρ.length:=by
 simp only[Pi,Bool.and_eq_true] at h;refine⟨fun i hi=>by have:=JD h.1 i hi;rwa [Nat.zero_add] at this,Kx h.2.1,L5 h.2.2.1,Nat.le_of_ble_eq_true h.2.2.2.1,Nat.eq_of_beq_eq_true h.2.2.2.2⟩
theorem Am {k:Nat}(hE:E.th0.length=k)(ρ:List Nat){st st':AS}(hc:Pi k ρ st.n st'.n=true)(hm:Bi ρ st.m st'.m)(ho:AH ρ st.o st'.o):Emb E N st st':=by
 obtain⟨h1,h2,h3,h4,h5⟩:=JB hc;exact emb ρ hm ho h5 h3 h4 (by rw[hE];exact h1) h2
theorem Emb.refl:Emb E N st st:=fun th z a w h=>⟨th,z,h⟩
theorem Emb.trans {s1 s2 s3:AS}(h:Emb E N s1 s2)(h':Emb E N s2 s3):Emb E N s1 s3:=fun th z a w hs=>let ⟨_,_,h1⟩:=h th z a w hs;h' _ _ _ _ h1
theorem AWP.emb {c:Code}{AQ:AExit→AS→Prop}{st st':AS}(h:Emb E N st st')(hc:AWP P E N c st' AQ):AWP P E N c st AQ:=fun Q hQ th z a w hs=>let ⟨th',z',h1⟩:=h th z a w hs;hc Q hQ th' z' a w h1
theorem EX (p:Nat→Prop): ∀n,p n→ ∃m,p m∧ ∀k,p k→m≤k:=by
 intro n
 induction n using Nat.strongRecOn with
 |_ n ih=>
  intro hn
  by_cases h: ∃m,m<n∧p m
  ·obtain⟨m,h1,h2⟩:=h;exact ih m h1 h2
  ·exact⟨n,hn,fun k hk=>Nat.le_of_not_lt fun hlt=>h ⟨k,hlt,hk⟩⟩
def Ok {ι:Type}(E:Env)(N:Nat)(I:ι→AS)(ok:ι→Prop)(μ:ι→Nat)(i:ι)(AQ:AExit→AS→Prop):AExit→AS→Prop
 | .normal,st=> ∃i',ok i'∧μ i'<μ i∧Emb E N st (I i')
 |e,st=>AQ e st
theorem BT {ι:Type}{I:ι→AS}{ok:ι→Prop}{μ:ι→Nat}{i:ι}{AQ:AExit→AS→Prop}(i':ι)(h1:ok i')(h2:μ i'<μ i)(h3:Emb E N st (I i')):Ok E N I ok μ i AQ .normal st:=⟨i',h1,h2,h3⟩
theorem Ba {ι:Type}{I:ι→AS}{ok:ι→Prop}{μ:ι→Nat}{i:ι}{AQ:AExit→AS→Prop}{id:Nat}(i':ι)(h1:ok i')(h2:μ i'<μ i)(h3:Emb E N st (I i')):Gn id (Ok E N I ok μ i AQ) .normal st:=⟨i',h1,h2,h3⟩
theorem Ap {ι:Type}(I:ι→AS)(ok:ι→Prop)(μ:ι→Nat)(i0:ι){c:Code}{AQ:AExit→AS→Prop}(h0:ok i0)(he:Emb E N st (I i0))
  (round: ∀i,ok i→AWP P E N c (I i) (Ok E N I ok μ i AQ)):AWP P E N (.loop c) st AQ:=by
 classical
 intro Q hQ th z a w hs
 let p:Act→World→Nat→Prop:=fun a w n=> ∃i,ok i∧μ i=n∧ ∃th z,Sim E N (I i) th z a w
 let m:Act→World→Nat:=fun a w=>if h: ∃n,p a w n then (EX (p a w) h.choose h.choose_spec).choose else 0
 have hm: ∀a w n,p a w n→p a w (m a w)∧m a w≤n:=by
  intro a w n hn;have h: ∃n,p a w n:=⟨n,hn⟩;have:=(EX (p a w) h.choose h.choose_spec).choose_spec;simp only[m,dif_pos h];exact⟨this.1,this.2 n hn⟩
 obtain⟨th1,z1,h1⟩:=he th z a w hs;refine wp_loop (fun a w=> ∃n,p a w n) m ⟨μ i0,i0,h0,rfl,th1,z1,h1⟩ (fun a w ⟨n,hn⟩=>?_);obtain⟨⟨i,hok,hμ,th2,z2,h2⟩,_⟩:=hm a w n hn;refine round i hok _ ⟨?_,?_,?_,?_⟩ th2 z2 a w h2
 ·rintro st' th' z' a' w' ⟨i',hok',hlt,hemb⟩ hs'
  obtain⟨th3,z3,h3⟩:=hemb th' z' a' w' hs';have hp:p a' w' (μ i'):=⟨i',hok',rfl,th3,z3,h3⟩;exact⟨⟨μ i',hp⟩,by have:=(hm a' w' _ hp).2;omega⟩
 ·intro id st' th' z' a' w' h1 h2;exact hQ.2.1 id st' th' z' a' w' h1 h2
 ·intro st' th' z' a' w' h1 h2;exact hQ.2.2.1 st' th' z' a' w' h1 h2
 ·intro x v st' th' z' w' h1 h2 h3 a' h4;exact hQ.2.2.2 x v st' th' z' w' h1 h2 h3 a' h4
theorem SO {n:Int}(h1: -9223372036854775808≤n)(h2:n≤9223372036854775807):IntKind.i64.wrap n=n:=Go.IntWalk.i64_in n ⟨h1,h2⟩
def Ai:Nat→List AV→List (Nat×AV)
 |_,[]=>[]
 |i,x::r=>(i,x)::Ai (i+1) r
theorem M4: ∀(c:List AV)(s i:Nat)(x:AV),lk (Ai s c) i=some x→s≤i∧c[i - s]?=some x
 | [],s,i,x,h=>by simp[Ai,lk] at h
 |y::r,s,i,x,h=>by
  simp only[Ai,lk] at h;split at h
  ·rename_i e;subst e;cases h;simp
  ·rename_i e
   obtain⟨h1,h2⟩:=M4 r (s+1) i x h;exact⟨by omega,by rw[show i - s=(i - (s+1))+1 by omega,List.getElem?_cons_succ];exact h2⟩
def U2 (P:Program)(st:AS):ResultVar→Option AV
 | .tmp t=>lk st.m t
 | .cell t T=>match AT P T,lk st.m t with
   |some y,some x=>match FQ st x with
    |some (c,off)=>Gx y c off
    |none=>none
   |_,_=>none
def Iw (P:Program)(st:AS):List ResultVar→Option (List AV)
 | []=>some []
 |x::r=>match U2 P st x,Iw P st r with
  |some a,some l=>some (a::l)
  |_,_=>none
def AI:List AV→AV
 | [x]=>x
 |l=> .tup l
def EmbV (E:Env)(st:AS)(x:AV)(o:List (Nat×Nd))(n:Nat)(y:AV):Prop:= ∀th z w v,Mem E st.o st.n th z w→Rep w z th x v→ ∃th' z',Mem E o n th' z' w∧Rep w z' th' y v
theorem Tf (ρ:List Nat){x y:AV}{o':List (Nat×Nd)}(hx:x=ren (AG ρ) y)(ho:AH ρ st.o o')(hr: ∀j ∈ ρ,j<st.n)(hb:st.n≤1000000000)(hpre: ∀i,i<E.th0.length→ρ[i]?=some i)(hnd:ρ.Nodup):EmbV E st x o' ρ.length y:=by
 intro th z w v h hv;exact⟨DL th ρ,z,h.ren ρ hr hb ho hpre hnd,hv.unren (DI (fun j hj=>by rw[h.len];exact hr j hj) (by rw[h.len];exact hb)) y hx⟩
theorem AC {k:Nat}(hE:E.th0.length=k)(ρ:List Nat){x y:AV}{o':List (Nat×Nd)}{n:Nat}(hc:Pi k ρ st.n n=true)(hx:x=ren (AG ρ) y)(ho:AH ρ st.o o'):EmbV E st x o' n y:=by
 obtain⟨h1,h2,h3,h4,rfl⟩:=JB hc;exact Tf ρ hx ho h3 h4 (by rw[hE];exact h1) h2
theorem LL {x y:AV}(hE:E.th0.length=0)(hb:st.n≤1000000000)(hx:x=ren (AG []) y):EmbV E st x [] 0 y:=
 Tf [] hx (fun p hp=>by cases hp) (fun j hj=>by cases hj) hb (fun i hi=>by omega) List.nodup_nil
def Io (E:Env)(N:Nat)(st:AS)(x:AV)(o:List (Nat×Nd))(n:Nat)(y:AV):Prop:= ∀th z a w v,Sim E N st th z a w→Rep w z th x v→ ∃th' z',Mem E o n th' z' w∧Rep w z' th' y v
theorem EmbV.s {x y:AV}{o:List (Nat×Nd)}{n:Nat}(h:EmbV E st x o n y):Io E N st x o n y:=fun th z _ w v hs hr=>h th z w v hs.mem hr
def BS (P:Program)(E:Env)(N:Nat)(rs:List ResultVar)(Q R:AV→List (Nat×Nd)→Nat→Prop):AExit→AS→Prop
 | .normal,st | .ret,st=>match Iw P st rs with
   |some l=> ∃y o n,Q y o n∧Io E N st (AI l) o n y
   |none=>False
 | .pan x,st=> ∃y o n,R y o n∧EmbV E st x o n y
 |_,_=>False
def Con (P:Program)(G:List (Nat×List Value))(f:Nat)(xs:List AV)(o:List (Nat×Nd))(n:Nat)(Q R:AV→List (Nat×Nd)→Nat→Prop):Prop:=
 Kt P f=true∧ ∀(w:World)(th:List NLoc)(z:Ag)(own:Nat→Prop)(vs:List Value),(∀b,(∃i nd L,lk o i=some nd∧th[i]?=some L∧L.ph=false∧L.b=b)→own b)→Mem ⟨w,own,z,G,th,[]⟩ o n th z w→Reps w z th xs vs→
  Calls P f vs.toArray w (fun e w'=> ∃v y o' n' th' z',((e= .returned v∧Q y o' n')∨(e= .panicked [{v:=v,recovered:=false}]∧R y o' n'))∧Mem ⟨w,own,z,G,th,[]⟩ o' n' th' z' w'∧Rep w' z' th' y v)
def Ry (tmps:Array Value):ResultVar→Sem Value
 | .tmp t=>pure (tmps.getD t undef)
 | .cell a t=>do loadVar t (←asAddr (tmps.getD a undef))
theorem NF (h:Sim E N st th z a w){x:ResultVar}{y:AV}(hx:U2 P st x=some y): ∃v,Rep w z th y v∧(Ry a.tmps x).run P w= .ok v w:=by
 cases x with
 |tmp t=>
  obtain⟨v,hv,hr⟩:=h.slots t y hx;exact⟨v,hr,by simp[Ry,Array.getD_eq_getD_getElem?,hv]⟩
 |cell t T=>
  simp only[U2] at hx;split at hx
  ·rename_i ty x hT hl
   split at hx
   ·rename_i c off hc
    obtain⟨u,hu,hr⟩:=h.slots t _ hl;obtain⟨b,o,rfl,hlt,hcell⟩:=Fc h hr hc;obtain⟨v,hrv,hrun⟩:=Gv (P:=P) hT hx (fun _=> .inr trivial) hcell;refine⟨v,hrv,?_⟩;simp only[Ry,Array.getD_eq_getD_getElem?,hu,Option.getD_some,asAddr,Sem.run_bind,Sem.run_pure,Result.andThen_ok];exact hrun w (fun _=>rfl)
   ·cases hx
  ·cases hx
theorem Hk (h:Sim E N st th z a w): ∀ {rs:List ResultVar}{l:List AV},Iw P st rs=some l→ ∃vs,Reps w z th l vs∧(rs.mapM (Ry a.tmps)).run P w= .ok vs w
 | [],l,he=>by simp only[Iw,Option.some.injEq] at he;subst he;exact⟨[],.nil,by simp⟩
 |x::r,l,he=>by
  simp only[Iw] at he;split at he
  ·rename_i y l' h1 h2;cases he
   obtain⟨v,hv,hrun⟩:=NF (P:=P) h h1;obtain⟨vs,hvs,hrun'⟩:=Hk h h2;refine⟨v::vs,.cons hv hvs,?_⟩;rw[List.mapM_cons,Sem.run_bind,hrun,Result.andThen_ok,Sem.run_bind,hrun',Result.andThen_ok];rfl
  ·cases he
theorem Cl (h:Sim E N st th z a w){fn:Func}{l:List AV}(hl:Iw P st fn.results.toList=some l): ∃v,Rep w z th (AI l) v∧(results fn a.tmps).run P w= .ok v w:=by
 obtain⟨vs,hvs,hrun⟩:=Hk (P:=P) h hl
 have hm:(fn.results.mapM (Ry a.tmps)).run P w= .ok vs.toArray w:=by
  rw[show fn.results=fn.results.toList.toArray by simp,List.mapM_toArray,Sem.run_map];simp only[hrun,Result.andThen_ok]
 have e:results fn a.tmps=(do let vs ←fn.results.mapM (Ry a.tmps);pure (if h:vs.size=1 then vs[0] else .tuple vs)):=rfl;refine⟨if h:vs.toArray.size=1 then vs.toArray[0] else .tuple vs.toArray,?_,?_⟩
 ·unfold AI
  split
  ·rename_i x
   obtain⟨v,r,rfl,hv,hr⟩:=hvs.head;obtain rfl:=hr.of_nil;simpa using hv
  ·rename_i hne
   have hlen:vs.toArray.size≠1:=by
    intro hh
    have:l.length=1:=by rw[←hvs.1];simpa using hh
    obtain⟨x,rfl⟩:=List.length_eq_one_iff.1 this;exact hne x rfl
   rw[dif_neg hlen];exact .tup th l vs hvs.1 hvs.2
 ·rw[e,Sem.run_bind,hm];rfl
theorem A8 {G:List (Nat×List Value)}{f:Nat}{fn:Func}{c:Code}{xs:List AV}{o:List (Nat×Nd)}{n:Nat}{Q R:AV→List (Nat×Nd)→Nat→Prop}(hf:P.funcs[f]?=some fn)(hb:fn.body=some c)(hok:Kt P f=true)(hN:xs.length≤fn.ntmps)
  (h: ∀E:Env,E.G=G→E.th0.length=n→AWP P E fn.ntmps c ⟨Ai 0 xs,o,n⟩ (BS P E fn.ntmps fn.results.toList Q R)):Con P G f xs o n Q R:=by
 refine⟨hok,fun w th z own vs hown hmem hr=>calls_of_wp hf hb ?_⟩
 have hlen:vs.toArray.size=xs.length:=by simpa using hr.1
 have hs:Sim ⟨w,own,z,G,th,[]⟩ fn.ntmps ⟨Ai 0 xs,o,n⟩ th z {tmps:=vs.toArray++Array.replicate (fn.ntmps - vs.toArray.size) undef,defers:=[]} w:=by
  refine⟨hmem,by simp;have:=hr.1;omega,rfl,fun i x hi=>?_⟩;obtain⟨_,h2⟩:=M4 xs 0 i x hi;rw[Nat.sub_zero] at h2;obtain⟨y,hy,hrep⟩:=hr.get h2;refine⟨y,?_,hrep⟩;have:i<vs.length:=(List.getElem?_eq_some_iff.1 hy).1;simp only[Array.getElem?_append,List.size_toArray,this,if_true];simpa using hy
 refine h ⟨w,own,z,G,th,[]⟩ rfl hmem.len (bodyPost P fn _) ⟨?_,?_,?_,?_⟩ th z _ w hs
 ·intro st th z a w h1 h2
  simp only[BS] at h1;split at h1
  ·rename_i l hl
   obtain⟨y,o',n',hq,he⟩:=h1;obtain⟨v,hv,hrun⟩:=Cl (P:=P) h2 hl;obtain⟨th',z',hm,hrep⟩:=he th z a w v h2 hv;exact⟨h2.dfs,v,hrun,v,y,o',n',th',z',.inl ⟨rfl,hq⟩,hm,hrep⟩
  ·exact h1.elim
 ·intro id st th z a w h1 h2;exact h1.elim
 ·intro st th z a w h1 h2
  simp only[BS] at h1;split at h1
  ·rename_i l hl
   obtain⟨y,o',n',hq,he⟩:=h1;obtain⟨v,hv,hrun⟩:=Cl (P:=P) h2 hl;obtain⟨th',z',hm,hrep⟩:=he th z a w v h2 hv;exact⟨h2.dfs,v,hrun,v,y,o',n',th',z',.inl ⟨rfl,hq⟩,hm,hrep⟩
  ·exact h1.elim
 ·intro x v st th z w h1 h2 h3 a h4
  obtain⟨y,o',n',hq,he⟩:=h1;obtain⟨th',z',hm,hrep⟩:=he th z w v h2 h3;exact⟨h4,v,y,o',n',th',z',.inr ⟨rfl,hq⟩,hm,hrep⟩
end
end Go.AM
namespace Go.AM
open Go
inductive PT:AV→Prop
 |r (v:Value):PT (.r v)
 |ro (k:Nat) (els:List (List AV)) (h: ∀e ∈ els,∀x ∈ e,PT x):PT (.ro true k els)
 |re (c:List AV) (off:Nat) (h: ∀x ∈ c,PT x):PT (.re true c off)
 |s (n lo len:Nat):PT (.s n lo len)
 |p (n i off:Nat):PT (.p n i off)
 |agg (c:List AV) (h: ∀x ∈ c,PT x):PT (.agg c)
 |tup (c:List AV) (h: ∀x ∈ c,PT x):PT (.tup c)
 |ifc (t:Nat) (x:AV) (h:PT x):PT (.ifc t x)
 |fn (f:Nat) (c:List AV) (h: ∀x ∈ c,PT x):PT (.fn f c)
 |q (n:Nat):PT (.q n)
 |u (T k:Nat) (els:List (List AV)) (h: ∀e ∈ els,∀x ∈ e,PT x):PT (.u T k els)
 |any:PT .any
def E8:Nd→Prop
 | .box _ c=> ∀x ∈ c,PT x
 | .lst _ _ els=> ∀e ∈ els,∀x ∈ e,PT x
 | .ul _ _ els op=>(∀e ∈ els,∀x ∈ e,PT x)∧ ∀p ∈ op,PT p.2.2
 | .mp _=>True
mutual
def Tg (t:Bool):AV→AV
 | .u _ k els=> .ro t k (FS t els)
 | .r v=> .r v
 | .ro t k els=> .ro t k els
 | .re t c off=> .re t c off
 | .s n lo len=> .s n lo len
 | .p n i off=> .p n i off
 | .agg c=> .agg c
 | .tup c=> .tup c
 | .fn f c=> .fn f c
 | .ifc t x=> .ifc t x
 | .q n=> .q n
 | .any=> .any
def FS (t:Bool):List (List AV)→List (List AV)
 | []=>[]
 |e::r=>Id t e::FS t r
def Id (t:Bool):List AV→List AV
 | []=>[]
 |x::r=>Tg t x::Id t r
end
theorem Ic (t:Bool): ∀(c:List AV)(i:Nat),(Id t c)[i]?=(c[i]?).map (Tg t)
 | [],i=>by simp[Id]
 |x::r,0=>by simp[Id]
 |x::r,i+1=>by simp[Id,Ic t r i]
theorem Ia (t:Bool): ∀(c:List (List AV))(i:Nat),(FS t c)[i]?=(c[i]?).map (Id t)
 | [],i=>by simp[FS]
 |x::r,0=>by simp[FS]
 |x::r,i+1=>by simp[FS,Ia t r i]
theorem Ib (t:Bool): ∀c:List AV,(Id t c).length=c.length
 | []=>by simp[Id]
 |x::r=>by simp[Id,Ib t r]
theorem GF (t:Bool): ∀c:List (List AV),(FS t c).length=c.length
 | []=>by simp[FS]
 |x::r=>by simp[FS,GF t r]
mutual
def Eg (st:AS):AV→Option AV
 | .s n lo len=>match lk st.o n with
   |some (.lst _ k els)=>if lo+len≤els.length then some (.ro false k ((els.drop lo).take len)) else none
   |some (.ul _ k els [])=>if lo+len≤els.length then some (.ro false k ((FS false els).drop lo |>.take len)) else none
   |_=>none
 | .p n i off=>match lk st.o n with
   |some (.box _ c)=>if i=0 then (Fr c).map fun c'=> .re false c' off else none
   |_=>none
 | .r v=>some (.r v)
 | .ro t k els=>some (.ro t k els)
 | .re t c off=>some (.re t c off)
 | .agg c=>(D7 st c).map .agg
 | .tup c=>(D7 st c).map .tup
 | .fn f c=>(D7 st c).map (.fn f)
 | .ifc t x=>(Eg st x).map (.ifc t)
 | .q _=>none
 | .u _ _ _=>none
 | .any=>some .any
def D7 (st:AS):List AV→Option (List AV)
 | []=>some []
 |x::r=>match Eg st x,D7 st r with
  |some a,some l=>some (a::l)
  |_,_=>none
def Fr:List AV→Option (List AV)
 | []=>some []
 | .r v::r=>(Fr r).map (.r v:: ·)
 | .ro t k els::r=>(Fr r).map (.ro t k els:: ·)
 | .re t c off::r=>(Fr r).map (.re t c off:: ·)
 |_::_=>none
end
section
variable {P:Program} {E:Env} {N:Nat} {st:AS} {th:List NLoc} {z:Ag} {a:Act} {w:World}
def zc (w:World)(z:Ag):Ag:=fun t b=>if t then z true b else b<w.heap.size
theorem GN (h: ∀t b,z t b→b<w.heap.size): ∀t b,z t b→zc w z t b:=by
 intro t b hb;cases t
 ·exact h _ b hb
 ·exact hb
theorem Rep.ground {x:AV}{v:Value}(hr:Rep w z th x v)(hg:(∃u,x= .r u)∨(∃t k els,x= .ro t k els)∨ ∃t c off,x= .re t c off)(th':List NLoc):Rep w z th' x v:=by
 cases hr with
 |r _ v=>exact .r _ _
 |nil _ t k a c=>exact .nil _ _ _ _ _
 |ro _ t k els b o c ys hz hc hk hy h1 hx=>exact .ro _ _ _ _ b o c ys hz hc hk hy h1 hx
 |re _ t c b o off ys hz hy hx=>exact .re _ _ _ b o _ ys hz hy hx
 |_=>rcases hg with ⟨_,h⟩ |⟨_,_,_,h⟩ |⟨_,_,_,h⟩<;>cases h
theorem Gm: ∀ {c c':List AV},Fr c=some c'→c'=c∧ ∀x ∈ c,(∃u,x= .r u)∨(∃t k els,x= .ro t k els)∨ ∃t c off,x= .re t c off
 | [],c',h=>by simp only[Fr,Option.some.injEq] at h;subst h;simp
 |x::r,c',h=>by
  cases x<;>simp only[Fr,Option.map_eq_some_iff] at h<;>try cases h
  all_goals
   rename_i hh;obtain⟨h1,rfl⟩:=hh;obtain⟨rfl,h2⟩:=Gm h1;refine⟨rfl,fun x hx=>?_⟩
   rcases List.mem_cons.1 hx with rfl |hx
   ·simp
   ·exact h2 x hx
theorem UC.seen {f:Nat→Prop}{x:AV}{v:Value}(h:UC w z f x v){z':Ag}{t:Bool}(hs: ∀t b,z t b→z' t b):(∀b,f b→z' t b)→Rep w z' [] (Tg t x) v:=by
 induction h with
 |r f x v h=>
  intro _
  have:Tg t x=x:=by cases h<;>rfl
  rw[this];exact h.on' ⟨hs,fun _ _ _=>rfl⟩
 |n f T k=>intro _;exact .nil _ _ _ _ _
 |u f T k els b o c cells fr F ys hb hf hl hs' hfb hF hd hk hy h1 hx ih=>
  intro hz
  have:=Rep.ro_mk (w:=w) (z:=z') (th:=[]) (t:=t) (els:=FS t els) (b:=b) (o:=o) (k:=k) (c:=c) (hz b hfb) (by rw[GF];exact hl) (fun i e he=>by
   rw[Ia,Option.map_eq_some_iff] at he;obtain⟨e0,he0,rfl⟩:=he;refine⟨by rw[Ib];exact hk i e0 he0,fun j x hj=>?_⟩;rw[Ic,Option.map_eq_some_iff] at hj;obtain⟨x0,hx0,rfl⟩:=hj
   exact⟨ys i j,by rw[CB hb];exact hy i e0 j x0 he0 hx0,ih i e0 j x0 he0 hx0 (fun b' hb'=>hz b' (hF _ _ _ hb').1),h1 i e0 j x0 he0 hx0⟩)
  rw[GF] at this;exact this
theorem Rep.seenU {z':Ag}{t:Bool}{U:Nat→Prop}{L:NLoc}{T k:Nat}{els:List (List AV)}{i lo len:Nat}{v:Value}(hr:Rep w z th (.s i lo len) v)(hL:th[i]?=some L)(hn:NdAt w z th L (.ul T k els []))(hU:UlAt w z th U L els [])(hle:lo+len≤els.length)
  (hz:L.ph=false→z' t L.b) (hz2: ∀b,U b→z' t b) (hs: ∀t b,z t b→z' t b) (th':List NLoc):Rep w z' th' (.ro t k ((FS t els).drop lo |>.take len)) v:=by
 obtain⟨L',hL',hcase⟩:=hr.s_inv;rw[hL] at hL';cases hL'
 have hlen:((FS t els).drop lo |>.take len).length=len:=by simp[GF];omega
 rcases hcase with ⟨_,rfl,rfl⟩ |⟨hp,c,o,rfl,hl,hcap,ho⟩
 ·simp only[List.take_zero];exact .nil _ _ _ _ _
 rcases hn with ⟨hp',_⟩ |⟨_,cells,fr,h2,h3,h4,h5,h6,h7⟩
 ·rw[hp] at hp';cases hp'
 by_cases hz0:len=0
 ·subst hz0;simp only[List.take_zero];exact .nil _ _ _ _ _
 ·have ho:=ho (by omega)
  subst ho;obtain⟨F,f1,_,f3⟩:=hU
  have key:Rep w z' th' (.ro t k ((FS t els).drop lo |>.take len)) (.slice (some ⟨L.b,L.o+lo * L.k,none⟩) ((FS t els).drop lo |>.take len).length c):=by
   refine Rep.ro_mk (hz hp) (by rw[hlen];exact hl) (fun i e he=>?_);rw[List.getElem?_take] at he;split at he
   ·rw[List.getElem?_drop,Ia,Option.map_eq_some_iff] at he
    obtain⟨e0,he0,rfl⟩:=he;refine⟨by rw[Ib];exact(h7 _ _ he0).trans h4,fun j x hj=>?_⟩;rw[Ic,Option.map_eq_some_iff] at hj;obtain⟨x0,hx0,rfl⟩:=hj;obtain⟨y,hy,ho1,hcu⟩:=f3 _ _ he0 j x0 hx0;refine⟨y,?_,UC.seen (show UC w z (F (lo+i) j) x0 y from hcu) hs (fun b hb=>hz2 b (f1 _ _ _ hb)),ho1⟩;rw[←h4,show L.o+lo * L.k+i * L.k+j=L.o+(lo+i) * L.k+j by rw[Nat.add_mul];omega];exact hy
   ·cases he
  rw[hlen] at key;exact key
mutual
theorem JX (h:Sim E N st th z a w): ∀(x:AV){y:AV}{v:Value},Eg st x=some y→Rep w z th x v→Rep w (zc w z) [] y v
 | .s n lo len,y,v,hb,hr=>by
   simp only[Eg] at hb;split at hb
   ·rename_i T k els hn
    split at hb
    ·rename_i hle;cases hb
     obtain⟨L,h1,h2,h3⟩:=h.mem.nds n _ hn;exact hr.seen h1 h2 hle (fun hp=>(h3 hp).1) (GN h.mem.zlt) []
    ·cases hb
   ·rename_i T k els hn
    split at hb
    ·rename_i hle;cases hb
     obtain⟨L,h1,h2,h3⟩:=h.mem.nds n _ hn;obtain⟨U,hU⟩:=h.mem.uls;exact hr.seenU h1 h2 (hU.at_ _ _ _ _ _ _ hn h1) hle (fun hp=>(h3 hp).1) (fun b hb=>hU.lt n b hb) (GN h.mem.zlt) []
    ·cases hb
   ·cases hb
 | .p n i off,y,v,hb,hr=>by
   simp only[Eg] at hb;split at hb
   ·rename_i T c hn
    split at hb
    ·rename_i hi;subst hi
     simp only[Option.map_eq_some_iff] at hb;obtain⟨c',hc,rfl⟩:=hb;obtain⟨rfl,hg⟩:=Gm hc;obtain⟨L,h1,⟨hp,cells,fr,h2,h3,h4,h5⟩,h6⟩:=h.mem.nds n _ hn;obtain⟨h6,h7,h8⟩:=h6 hp;obtain⟨L',hL',rfl⟩:=hr.p_inv;rw[h1] at hL';cases hL'
     have:=Rep.re_mk (w:=w) (z:=zc w z) (th:=[]) (t:=false) (c:=c') (b:=L.b) (o:=0) (off:=off) h6 (fun j x hj=>by
      obtain⟨y,hy,hr⟩:=h5.get hj;refine⟨y,?_,(hr.ground (hg x (List.mem_of_getElem? hj)) []).on' ⟨GN h.mem.zlt,fun _ _ _=>rfl⟩⟩
      rw[CB h2];simpa using hy)
     simpa[h4] using this
    ·cases hb
   ·cases hb
 | .r u,y,v,hb,hr=>by simp only[Eg,Option.some.injEq] at hb;subst hb;exact(hr.ground (.inl ⟨_,rfl⟩) []).on' ⟨GN h.mem.zlt,fun _ _ _=>rfl⟩
 | .ro t k els,y,v,hb,hr=>by simp only[Eg,Option.some.injEq] at hb;subst hb;exact(hr.ground (.inr (.inl ⟨_,_,_,rfl⟩)) []).on' ⟨GN h.mem.zlt,fun _ _ _=>rfl⟩
 | .re t c off,y,v,hb,hr=>by simp only[Eg,Option.some.injEq] at hb;subst hb;exact(hr.ground (.inr (.inr ⟨_,_,_,rfl⟩)) []).on' ⟨GN h.mem.zlt,fun _ _ _=>rfl⟩
 | .agg c,y,v,hb,hr=>by
   simp only[Eg,Option.map_eq_some_iff] at hb;obtain⟨c',hc,rfl⟩:=hb;obtain⟨ys,rfl,hys⟩:=hr.agg_inv;have:=Ds h c hc hys;exact .agg _ _ _ this.1 this.2
 | .tup c,y,v,hb,hr=>by
   simp only[Eg,Option.map_eq_some_iff] at hb;obtain⟨c',hc,rfl⟩:=hb;obtain⟨ys,rfl,hys⟩:=hr.tup_inv;have:=Ds h c hc hys;exact .tup _ _ _ this.1 this.2
 | .fn f c,y,v,hb,hr=>by
   simp only[Eg,Option.map_eq_some_iff] at hb;obtain⟨c',hc,rfl⟩:=hb
   cases hr with
   |fn _ _ _ ys hl hx=>
    have:=Ds h c hc ⟨hl,hx⟩;exact .fn _ _ _ _ this.1 this.2
 | .ifc t x,y,v,hb,hr=>by
   simp only[Eg,Option.map_eq_some_iff] at hb;obtain⟨c',hc,rfl⟩:=hb
   cases hr with
   |ifc _ _ _ u hu=>exact .ifc _ _ _ _ (JX h x hc hu)
 | .q n,y,v,hb,hr=>by simp[Eg] at hb
 | .u T k els,y,v,hb,hr=>by simp[Eg] at hb
 | .any,y,v,hb,hr=>by simp only[Eg,Option.some.injEq] at hb;subst hb;exact .any _ _
theorem Ds (h:Sim E N st th z a w): ∀(c:List AV){d:List AV}{vs:List Value},D7 st c=some d→Reps w z th c vs→Reps w (zc w z) [] d vs
 | [],d,vs,hb,hr=>by
   simp only[D7,Option.some.injEq] at hb;subst hb;obtain rfl:=hr.of_nil;exact .nil
 |x::r,d,vs,hb,hr=>by
  simp only[D7] at hb;split at hb
  ·rename_i y l h1 h2;cases hb
   obtain⟨v,vs',rfl,hv,hvs⟩:=hr.head;exact .cons (JX h x h1 hv) (Ds h r h2 hvs)
  ·cases hb
end
theorem Rep.back {z' z2:Ag}{x:AV}{v:Value}(hr:Rep w z' th x v)(hz: ∀b,z' true b→z2 true b)(hx:PT x):Rep w z2 th x v:=by
 induction hr with
 |r th v=>exact .r _ _
 |nil th t k a c=>exact .nil _ _ _ _ _
 |ro th t k els b o c ys hzb hc hk hy h1 hx' ih=>
  cases hx with
  |ro _ _ h=>exact .ro _ _ _ _ b o c ys (hz _ hzb) hc hk hy h1 (fun i e j x he hj=>ih i e j x he hj (h e (List.mem_of_getElem? he) x (List.mem_of_getElem? hj)))
 |re th t c b o off ys hzb hy hx' ih=>
  cases hx with
  |re _ _ h=>exact .re _ _ _ b o _ ys (hz _ hzb) hy (fun j x hj=>ih j x hj (h x (List.mem_of_getElem? hj)))
 |s th n lo len c x L hL hp hl hc ho=>exact .s _ _ _ _ c x L hL hp hl hc ho
 |sn th n lo L hL hp=>exact .sn _ _ _ L hL hp
 |p th n i off L hL=>exact .p _ _ _ _ L hL
 |agg th c ys hl hx' ih=>
  cases hx with
  |agg _ h=>exact .agg _ _ ys hl (fun i x y h1 h2=>ih i x y h1 h2 (h x (List.mem_of_getElem? h1)))
 |tup th c ys hl hx' ih=>
  cases hx with
  |tup _ h=>exact .tup _ _ ys hl (fun i x y h1 h2=>ih i x y h1 h2 (h x (List.mem_of_getElem? h1)))
 |fn th f c ys hl hx' ih=>
  cases hx with
  |fn _ _ h=>exact .fn _ _ _ ys hl (fun i x y h1 h2=>ih i x y h1 h2 (h x (List.mem_of_getElem? h1)))
 |ifc th t x v hx' ih=>
  cases hx with
  |ifc _ _ h=>exact .ifc _ _ _ _ (ih h)
 |q th n L hL=>exact .q _ _ L hL
 |any th v=>exact .any _ _
theorem UC.back {f:Nat→Prop}{z' z2:Ag}{x:AV}{v:Value}(h:UC w z' f x v)(hz: ∀b,z' true b→z2 true b)(hx:PT x):UC w z2 f x v:=by
 induction h with
 |r f x v h=>exact .r _ _ _ (h.back hz hx)
 |n f T k=>exact .n _ _ _
 |u f T k els b o c cells fr F ys hb hf hl hs hfb hF hd hk hy h1 hx' ih=>
  cases hx with
  |u _ _ _ h=>exact .u f T k els b o c cells fr F ys hb hf hl hs hfb hF hd hk hy h1 (fun i e j x h1 h2=>ih i e j x h1 h2 (h e (List.mem_of_getElem? h1) x (List.mem_of_getElem? h2)))
theorem Ml: ∀ {op:List (Nat×Nat×AV)}{i j:Nat}{x:AV},EC op i j=some x→(i,j,x) ∈ op
 | [],i,j,x,h=>by simp[EC] at h
 |(p,q,y)::r,i,j,x,h=>by
  simp only[EC] at h;split at h
  ·rename_i e;obtain⟨rfl,rfl⟩:=e;cases h;simp
  ·exact List.mem_cons_of_mem _ (Ml h)
theorem UlAt.back {z' z2:Ag}{U:Nat→Prop}{L:NLoc}{T k:Nat}{els:List (List AV)}{op:List (Nat×Nat×AV)}(h:UlAt w z' th U L els op)(hz: ∀b,z' true b→z2 true b)(hx:E8 (.ul T k els op)):UlAt w z2 th U L els op:=by
 obtain⟨F,h1,h2,h3⟩:=h;refine⟨F,h1,h2,fun i e he j x hj=>?_⟩;obtain⟨y,hy,ho,hc⟩:=h3 i e he j x hj;refine⟨y,hy,ho,?_⟩;unfold CellU at hc ⊢
 cases hl:EC op i j with
 |some x'=>rw[hl] at hc;exact Rep.back hc hz (hx.2 _ (Ml hl))
 |none=>rw[hl] at hc;exact UC.back hc hz (hx.1 e (List.mem_of_getElem? he) x (List.mem_of_getElem? hj))
theorem NdAt.back {z' z2:Ag}{L:NLoc}{nd:Nd}(hn:NdAt w z' th L nd)(hz: ∀b,z' true b→z2 true b)(hx:E8 nd):NdAt w z2 th L nd:=by
 cases nd with
 |box T c=>
  obtain⟨hp,cells,fr,h1,h2,h3,h4⟩:=hn;exact⟨hp,cells,fr,h1,h2,h3,h4.1,fun i x y hi hy=>(h4.2 i x y hi hy).back hz (hx x (List.mem_of_getElem? hi))⟩
 |lst T k els=>
  rcases hn with hn |⟨hp,cells,fr,h1,h2,h3,h4,h5,h6⟩
  ·exact .inl hn
  exact .inr ⟨hp,cells,fr,h1,h2,h3,h4,h5,fun i e he=>⟨(h6 i e he).1,fun j x hj=>let ⟨y,hy,hr,ho⟩:=(h6 i e he).2 j x hj;⟨y,hy,hr.back hz (hx e (List.mem_of_getElem? he) x (List.mem_of_getElem? hj)),ho⟩⟩⟩
 |ul T k els op=>exact hn
 |mp l=>exact hn
def Jl (d:Nat)(o:List (Nat×Nd)):List (Nat×Nd):=o.map fun p=>(p.1+d,A9 (· +d) p.2)
theorem DE {α:Type}(o o':List (Nat×α))(i:Nat):lk (o++o') i=match lk o i with |some x=>some x |none=>lk o' i:=by
 induction o with
 |nil=>simp[lk]
 |cons p r ih=>
  obtain⟨j,x⟩:=p;simp only[List.cons_append,lk];split
  ·rfl
  ·exact ih
theorem RH (d:Nat)(o:List (Nat×Nd))(i:Nat):lk (Jl d o) i=if d≤i then (lk o (i - d)).map (A9 (· +d)) else none:=by
 induction o with
 |nil=>simp[Jl,lk]
 |cons p r ih=>
  obtain⟨j,x⟩:=p;simp only[Jl,List.map_cons,lk] at ih ⊢
  by_cases h:j+d=i
  ·subst h;simp
  ·rw[if_neg h,ih]
   by_cases h2:d≤i
   ·rw[if_pos h2,if_pos h2,if_neg (by omega)]
   ·rw[if_neg h2,if_neg h2]
def PW (z z':Ag):Ag:=fun t b=>if t then z' true b else z false b
theorem KP {f:Nat}{xs ys:List AV}{Q R:AV→List (Nat×Nd)→Nat→Prop}{k kp:AV→AS→Prop}(hc:Con P E.G f ys [] 0 Q R)(hb:D7 st xs=some ys)
  (hk: ∀y o n,Q y o n→PT y∧(∀p ∈ o,E8 p.2)∧k (ren (· +st.n) y) {st with o:=Jl st.n o++st.o,n:=st.n+n})
  (hkp: ∀y o n,R y o n→PT y∧(∀p ∈ o,E8 p.2)∧kp (ren (· +st.n) y) {st with o:=Jl st.n o++st.o,n:=st.n+n}):CallG P E N f xs st k kp:=by
 refine⟨hc.1,fun th z a w vs hs hr=>?_⟩
 have hz: ∀t b,zc w z t b→b<w.heap.size:=by
  intro t b h;cases t
  ·exact h
  ·exact hs.mem.zlt _ _ h
 have hmem0:Mem ⟨w,fun _=>False,zc w z,E.G,[],[]⟩ [] 0 [] (zc w z) w:=by
  refine⟨rfl,fun i nd hi=>by simp[lk] at hi,fun i j x y L M hi=>by simp[lk] at hi,hz,Nat.le_refl _,fun _ _ _=>rfl,fun _ _ h=>h,fun b h=> .inl h,fun b h=>h,fun g cs hg=>?_,fun i L hi=>by simp at hi,Sys.refl w,⟨fun _ _=>False,fun i T k els op L hi=>by simp[lk] at hi,fun _ _ h=>h.elim,fun _ _ h=>h.elim,fun _ _ h=>h.elim,fun _ _ _ h=>h.elim,fun i nd L j hi=>by simp[lk] at hi⟩⟩;obtain⟨h1,h2⟩:=hs.mem.globs g cs hg;exact⟨h1,h2⟩
 refine(hc.2 w [] (zc w z) (fun _=>False) vs (fun b=>by simp[lk]) hmem0 (Ds hs xs hb hr)).mono ?_;rintro e w' ⟨v,y,o',n',th',z',hh,hm,hv⟩;have ext:Ext w w':=⟨hm.grow,fun b hb=>hm.frame b hb (fun h=>h),hm.sys⟩
 have main:PT y→(∀p ∈ o',E8 p.2)→Sim E N {st with o:=Jl st.n o'++st.o,n:=st.n+n'} (th++th') (PW z z') a w'∧Rep w' (PW z z') (th++th') (ren (· +st.n) y) v:=by
  intro hy ho
  have hsub: ∀t b,z t b→PW z z' t b:=by
   intro t b hb;cases t
   ·exact hb
   ·exact hm.zin true b hb
  have le:Le w z w' (PW z z'):=ext.le hsub hs.mem.zlt
  have hfw: ∀(i:Nat) L,th'[i]?=some L→(th++th')[i+st.n]?=some L:=by
   intro i L hi;rw[List.getElem?_append_right (by rw[hs.mem.len];omega),hs.mem.len,Nat.add_sub_cancel];exact hi
  have hz1: ∀b,z' true b→PW z z' true b:=fun b hb=>hb
  have fresh: ∀b,z' true b→z true b∨w.heap.size≤b:=by
   intro b hb
   rcases hm.zout b hb with h1 |h1 |h1
   ·exact .inl h1
   ·exact h1.elim
   ·exact .inr h1
  have nodeold: ∀i nd,lk st.o i=some nd→ ∃L,th[i]?=some L∧(L.ph=false→L.b<w.heap.size∧(∀t,¬z t L.b))∧i<st.n:=by
   intro i nd hi;obtain⟨L,h1,h2,h3⟩:=hs.mem.nds i nd hi;exact⟨L,h1,fun hp=>⟨(h3 hp).1,(h3 hp).2.1⟩,by rw[←hs.mem.len];exact(List.getElem?_eq_some_iff.1 h1).1⟩
  have nodenew: ∀i nd,lk o' i=some nd→ ∃L,th'[i]?=some L∧(L.ph=false→w.heap.size≤L.b):=by
   intro i nd hi;obtain⟨L,h1,h2,h3⟩:=hm.nds i nd hi;refine⟨L,h1,fun hp=>?_⟩
   rcases(h3 hp).2.2 with h5 |h5
   ·exact h5.elim
   ·exact h5
  have look: ∀i nd,lk (Jl st.n o'++st.o) i=some nd→(st.n≤i∧ ∃x,lk o' (i - st.n)=some x∧nd=A9 (· +st.n) x)∨(i<st.n∧lk st.o i=some nd):=by
   intro i nd hi;rw[DE,RH] at hi
   by_cases h:st.n≤i
   ·rw[if_pos h] at hi
    cases hq:lk o' (i - st.n) with
    |some x=>rw[hq] at hi;simp at hi;exact .inl ⟨h,x,rfl,hi.symm⟩
    |none=>
     rw[hq] at hi;simp at hi;obtain⟨_,_,_,h5⟩:=nodeold i nd hi;omega
   ·rw[if_neg h] at hi
    simp at hi;exact .inr ⟨by omega,hi⟩
  have hnewL: ∀i L,st.n≤i→(th++th')[i]?=some L→th'[i - st.n]?=some L:=by
   intro i L h hi;rw[List.getElem?_append_right (by rw[hs.mem.len];exact h),hs.mem.len] at hi;exact hi
  have holdL: ∀i L,i<st.n→(th++th')[i]?=some L→th[i]?=some L:=by
   intro i L h hi;rw[List.getElem?_append_left (by rw[hs.mem.len];exact h)] at hi;exact hi
  refine⟨⟨⟨?_,?_,?_,?_,?_,?_,?_,?_,?_,?_,?_,?_,?_⟩,hs.size,hs.dfs,fun i x hi=>?_⟩,(hv.back hz1 hy).ren hfw⟩
  ·simp[hs.mem.len,hm.len]
  ·intro i nd hi
   rcases look i nd hi with ⟨h,x,hx,rfl⟩ |⟨h,hx⟩
   ·obtain⟨L,h1,h2,h3⟩:=hm.nds _ x hx
    refine⟨L,by have:=hfw _ _ h1;rwa [Nat.sub_add_cancel h] at this,(h2.back hz1 (ho _ (CG hx))).ren hfw,fun hp=>?_⟩;obtain⟨h3,h4,h5⟩:=h3 hp;refine⟨h3,fun t ht=>?_,?_⟩
    ·cases t
     ·have:=hs.mem.zlt _ _ ht
      rcases h5 with h5 |h5
      ·exact h5
      ·exact absurd this (Nat.not_lt.2 h5)
     ·exact h4 true ht
    ·rcases h5 with h5 |h5
     ·exact h5.elim
     ·exact .inr (Nat.le_trans hs.mem.grow h5)
   ·obtain⟨L,h1,h2,h3⟩:=hs.mem.nds i nd hx
    refine⟨L,BB _ h1,h2.on le (fun hp=>ext.same _ (h3 hp).1) th',fun hp=>?_⟩;obtain⟨h3,h4,h5⟩:=h3 hp;refine⟨Nat.lt_of_lt_of_le h3 ext.size,fun t ht=>?_,h5⟩;cases t
    ·exact h4 false ht
    ·rcases fresh _ ht with h6 |h6
     ·exact h4 true h6
     ·omega
  ·intro i j x y L M hi hj hL hM e1 e2 hb
   rcases look i x hi with ⟨h1,x1,hx1,rfl⟩ |⟨h1,hx1⟩<;>rcases look j y hj with ⟨h2,y1,hy1,rfl⟩ |⟨h2,hy1⟩
   ·have:=hm.inj _ _ x1 y1 L M hx1 hy1 (hnewL i L h1 hL) (hnewL j M h2 hM) e1 e2 hb
    omega
   ·obtain⟨L1,q1,q2⟩:=nodenew _ _ hx1
    rw[hnewL i L h1 hL] at q1;cases q1;obtain⟨L2,q3,q4,_⟩:=nodeold _ _ hy1;rw[holdL j M h2 hM] at q3;cases q3
    have:=q2 e1;have:=(q4 e2).1;omega
   ·obtain⟨L1,q1,q2⟩:=nodenew _ _ hy1
    rw[hnewL j M h2 hM] at q1;cases q1;obtain⟨L2,q3,q4,_⟩:=nodeold _ _ hx1;rw[holdL i L h1 hL] at q3;cases q3
    have:=q2 e2;have:=(q4 e1).1;omega
   ·exact hs.mem.inj i j x y L M hx1 hy1 (holdL i L h1 hL) (holdL j M h2 hM) e1 e2 hb
  ·intro t b hb
   cases t
   ·exact Nat.lt_of_lt_of_le (hs.mem.zlt _ _ hb) ext.size
   ·exact hm.zlt _ _ hb
  ·exact Nat.le_trans hs.mem.grow ext.size
  ·intro b hb hob
   exact(ext.same b (Nat.lt_of_lt_of_le hb hs.mem.grow)).trans (hs.mem.frame b hb hob)
  ·intro t b hb;exact hsub t b (hs.mem.zin t b hb)
  ·intro b hb
   rcases fresh b hb with h1 |h1
   ·exact hs.mem.zout b h1
   ·exact .inr (.inr (Nat.le_trans hs.mem.grow h1))
  ·intro b hb;exact hs.mem.zb b hb
  ·intro g cs hg
   obtain⟨h1,h2⟩:=hs.mem.globs g cs hg;exact⟨hsub _ _ h1,fun j v hv=>(CX (le.same _ _ h1) _).trans (h2 j v hv)⟩
  ·intro i L hi;exact BB _ (hs.mem.pre i L hi)
  ·exact hs.mem.sys.trans ext.sys
  ·obtain⟨U,hU⟩:=hs.mem.uls
   obtain⟨V,hV⟩:=hm.uls;have hVb: ∀i b,V i b→w.heap.size≤b:=fun i b hb=>(hV.ow i b hb).resolve_left (fun h=>h);refine⟨fun i b=>if st.n≤i then V (i - st.n) b else U i b,fun i T k els op L hi hL=>?_,fun i b hb=>?_,fun i b hb t ht=>?_,fun i b hb=>?_,fun i j b hb hb'=>?_,fun i nd L j hi hL hp hb=>?_⟩
   ·rcases look i _ hi with ⟨h1,x,hx,he⟩ |⟨h1,hx⟩
    ·simp only[h1,if_true]
     cases x with
     |ul T' k' els' op'=>
      simp only[A9,Nd.ul.injEq] at he;obtain⟨rfl,rfl,rfl,rfl⟩:=he;exact((hV.at_ _ _ _ _ _ L hx (hnewL i L h1 hL)).back hz1 (ho _ (CG hx))).ren hfw
     |_=>simp[A9] at he
    ·simp only[show ¬st.n≤i from Nat.not_le.2 h1,if_false]
     have hL':=holdL i L h1 hL;obtain⟨L',k1,k2,k3⟩:=hs.mem.nds i _ hx;rw[hL'] at k1;cases k1;exact(hU.at_ i T k els op L hx hL').on le (fun b hb=>ext.same b (hU.lt i b hb)) (k2.ul_nil.imp id (fun hp=>ext.same _ (k3 hp).1)) th'
   ·split at hb
    ·exact hV.lt _ _ hb
    ·exact Nat.lt_of_lt_of_le (hU.lt _ _ hb) ext.size
   ·split at hb
    ·cases t
     ·have:=hs.mem.zlt _ _ (show z false b from ht);have:=hVb _ _ hb;omega
     ·exact hV.nz _ _ hb true ht
    ·cases t
     ·exact hU.nz _ _ hb false ht
     ·rcases fresh _ ht with h6 |h6
      ·exact hU.nz _ _ hb true h6
      ·have:=hU.lt _ _ hb;omega
   ·split at hb
    ·exact .inr (Nat.le_trans hs.mem.grow (hVb _ _ hb))
    ·exact hU.ow _ _ hb
   ·split at hb<;>split at hb'
    ·have:=hV.inj _ _ _ hb hb';omega
    ·have:=hVb _ _ hb;have:=hU.lt _ _ hb';omega
    ·have:=hVb _ _ hb';have:=hU.lt _ _ hb;omega
    ·exact hU.inj _ _ _ hb hb'
   ·rcases look i _ hi with ⟨h1,x,hx,he⟩ |⟨h1,hx⟩
    ·have hL':=hnewL i L h1 hL
     split at hb
     ·exact hV.kn _ _ L _ hx hL' hp hb
     ·obtain⟨L',k1,k2⟩:=nodenew _ _ hx
      rw[hL'] at k1;cases k1
      have:=k2 hp;have:=hU.lt _ _ hb;omega
    ·have hL':=holdL i L h1 hL
     split at hb
     ·obtain⟨L',k1,k2,_⟩:=nodeold _ _ hx
      rw[hL'] at k1;cases k1
      have:=(k2 hp).1;have:=hVb _ _ hb;omega
     ·exact hU.kn _ _ L _ hx hL' hp hb
  ·obtain⟨u,hu,hru⟩:=hs.slots i x hi
   exact⟨u,hu,hru.on le th'⟩
 rcases hh with ⟨rfl,hq⟩ |⟨rfl,hq⟩
 ·obtain⟨h1,h2,h3⟩:=hk y o' n' hq
  obtain⟨m1,m2⟩:=main h1 h2;exact⟨v,_,_,_,_,.inl ⟨rfl,h3⟩,rfl,m1,m2,Br _ _,ext.t⟩
 ·obtain⟨h1,h2,h3⟩:=hkp y o' n' hq
  obtain⟨m1,m2⟩:=main h1 h2;exact⟨v,_,_,_,_,.inr ⟨rfl,h3⟩,rfl,m1,m2,Br _ _,ext.t⟩
end
end Go.AM
namespace Go.AM
open Go
section
variable {P:Program} {ops:Array Oper} {Q:Exit→Act→World→Prop} {n:Nat} {L:Array Bool→Act→World→Prop}
def O4 (P:Program)(ops:Array Oper)(Q:Exit→Act→World→Prop)(n:Nat)(L:Array Bool→Act→World→Prop):Nat→Array Bool→Act→World→Prop
 |0,s,a,w=>L s a w
 |f+1,s,a,w=>Region.ready .any ops s≠[]∧ ∀i ∈ Region.ready .any ops s,i<n∧wpOp P ops Q i (fun a' w'=>Ext w w'∧O4 P ops Q n L f (s.setIfInBounds i true) a' w') a w
theorem LV {g:Nat}(hL: ∀s a w,L s a w→wpAny P .any ops Q g s a w): ∀(f:Nat)(s:Array Bool)(a:Act)(w:World),O4 P ops Q n L f s a w→wpAny P .any ops Q (f+g) s a w
 |0,s,a,w,h=>by rw[Nat.zero_add];exact hL _ _ _ h
 |f+1,s,a,w,h=>by
  rw[show f+1+g=(f+g)+1 by omega];exact⟨fun h0=>absurd h0 h.1,fun i hi=>wpOp_mono (fun a' w' h'=>LV hL f _ a' w' h'.2) (h.2 i hi).2⟩
theorem La {oi:Oper}{v:Value}{a:Act}{w w':World}(h:YieldsIf P ops (Ext w) oi v a)(e:Ext w w'):YieldsIf P ops (Ext w') oi v a:=
 h.imp (fun⟨h1,h2⟩=>⟨h1,fun x hx=>h2 x (e.trans hx)⟩) id
theorem Il {i:Nat}{oi:Oper}{v:Value}(hi:ops[i]?=some oi)(hsel: ∀(j:Nat)(o:Oper) cs b,ops[j]?=some o→o.op≠ .select cs b)
  (hQ: ∀c a w,Q (.panic c) (a.put oi.dst v) w→Q (.panic c) a w) (hlt: ∀s,HeadInv .any ops n s→ ∀i,i<n→s.getD i true=false→ ∀j ∈ Region.ready .any ops s,j<n) (hin:i<n)
  (hdone: ∀s a w,L s a w→ ∀j ∈ Region.ready .any ops s,n≤j): ∀(f:Nat)(s:Array Bool)(a:Act)(w:World),HeadInv .any ops n s→
   (∀j oj,ops[j]?=some oj→j≠i→s.getD j true=false→(∀e ∈ oj.after,Region.binds .any e=true→e.on≠i)→oi.apart ops oj=true)→
   i ∈ Region.ready .any ops s→YieldsIf P ops (Ext w) oi v a→O4 P ops Q n L f (s.setIfInBounds i true) (a.put oi.dst v) w→O4 P ops Q n L (f+1) s a w:=by
 intro f
 induction f with
 |zero=>
  intro s a w inv _ hr hy H;refine⟨fun h=>(by rw[h] at hr;cases hr),fun j hj=>?_⟩;have hjn:j<n:=hlt s inv i hin (mem_ready.1 hr).1 j hj
  by_cases hji:j=i
  ·subst hji;exact⟨hjn,hy.wpOp hi (Ext.refl w) ⟨Ext.refl w,H⟩⟩
  ·have:=hdone _ _ _ H j (ready_mono hj hji)
   omega
 |succ f ih=>
  intro s a w inv hfree hr hy H;refine⟨fun h=>(by rw[h] at hr;cases hr),fun j hj=>?_⟩;have hjn:j<n:=hlt s inv i hin (mem_ready.1 hr).1 j hj;refine⟨hjn,?_⟩
  by_cases hji:j=i
  ·subst hji;exact hy.wpOp hi (Ext.refl w) ⟨Ext.refl w,H⟩
  ·have h1:=(H.2 j (ready_mono hj hji)).2
   obtain⟨hjun,oj,hoj,hall⟩:=mem_ready.1 hj;have hiun:=(mem_ready.1 hr).1
   have hnot: ∀e ∈ oj.after,Region.binds .any e=true→e.on≠i:=fun e he hb heq=>by
    have h2:=hall e he hb;rw[heq,getD_both hiun] at h2;cases h2
   have h2:=wpOp_putIf hoj (hfree j oj hoj hji hjun hnot) (fun cs b=>hsel i oi cs b hi) (fun cs b=>hsel j oj cs b hoj) hQ hy h1;refine wpOp_mono (fun a' w' h3=>⟨h3.2.1,ih _ a' w' (inv.set hj hjn) (fun k ok hk hki hun hno=>hfree k ok hk hki ?_ hno) (ready_mono hr (Ne.symm hji)) (La h3.1 h3.2.1) ?_⟩) h2
   ·by_cases hjk:j=k
    ·subst hjk;exact hjun
    ·rwa [getD_set_ne true hjk] at hun
   ·rw[Array.setIfInBounds_comm _ _ hji]
    exact h3.2.2
def Md (P:Program)(ops:Array Oper)(Q:Exit→Act→World→Prop)(n:Nat)(s:Array Bool)(a:Act)(w:World):Prop:=
 Region.seqB .any ops (ops.size - n) n s=true∧wpList P ops Q (ops.toList.drop n) a w
end
def DG:Op→Bool
 | .call {callee:= .builtin .len,..}=>true
 | .call _ | .box .. | .alloc _ | .buildSlice .. | .store .. | .makeSlice .. | .makeMap .. | .mapUpdate .. | .panic _ | .select .. =>false
 |_=>true
def Gy (ops:Array Oper)(n:Nat):List Nat→Array Bool→Bool
 | [],s=>Region.seqB .any ops (ops.size - n) n s
 |i::r,s=>decide (i<n)&&(match ops[i]? with
  |some o=>if DG o.op=true then (Region.ready .any ops s).contains i&&Region.free .any ops s i else decide (Region.ready .any ops s=[i])
  |none=>false)&&Gy ops n r (s.setIfInBounds i true)
def Fi (ops:Array Oper)(n:Nat)(ord:List Nat):Bool:=
 Region.noSelect ops&&(decide (n=ops.size)||(Region.sinkB .any ops n&&Region.chainB .any ops n&&decide (n<ops.size)))&&decide (ord.length=n)&&Gy ops n ord (Array.replicate ops.size false)
def Dx (P:Program)(E:Env)(N:Nat)(st:AS)(op:Op)(k kp:AV→AS→Prop):Prop:=
 match op with
 | .call {callee:= .value f,args,..}=>HE (ev st E.G f) (Du st E.G args.toList) (fun g xs=>CallG P E N g xs st k kp)
 | .box T x=>B3 (Cj P E.G st (.box T x)) k
 | .alloc T=>B3 (Cj P E.G st (.alloc T)) k
 | .buildSlice T n ps=>B3 (EJ P E.G st (.buildSlice T n ps)) k
 | .makeMap T r=>B3 (EJ P E.G st (.makeMap T r)) k
 | .makeSlice T l c=>B3 (Cj P E.G st (.makeSlice T l c)) k
 |op=>DG op=true∧F7 (qv P E.G st op) (fun v=>k v st)
def F2 (P:Program)(E:Env)(N:Nat)(ds:List (Option Nat))(kp:AV→AS→Prop)(tail:List Oper):List Oper→AS→(AS→Prop)→Prop
 | [],st,K=>HK P E N ds kp tail st K
 |o::rest,st,K=>Eb (Gb ds st o.guard) (Dx P E N st o.op (fun v st'=>F2 P E N ds kp tail rest (st'.put o.dst v) K) kp) (F2 P E N ds kp tail rest (st.put o.dst (.r (.tuple #[]))) K)
def D2 (ops:Array Oper)(ord:List Nat):List Oper:=ord.filterMap (ops[·]?)
section
variable {P:Program} {E:Env} {N:Nat} {st:AS} {th:List NLoc} {z:Ag} {a:Act} {w:World}
theorem Dw (h:Sim E N st th z a w)(o:Oper){k kp:AV→AS→Prop}(hk:Dx P E N st o.op k kp)(hd: ∀i,o.dst=some i→i<N){next:Act→World→Prop}{Q:Exit→Act→World→Prop}
  (hn: ∀x st' th' z' a' w',k x st'→Sim E N (st'.put o.dst x) th' z' a' w'→Ext w w'→next a' w') (hp: ∀x v st' th' z' w',kp x st'→Sim E N st' th' z' a w'→Rep w' z' th' x v→Q (.panic [{v:=v,recovered:=false}]) a w'):o.wp P a w next Q:=by
 obtain⟨dst,op,ty,pos,aft,gd⟩:=o;simp only at hk;unfold Dx at hk;split at hk
 ·rename_i f args ats
  unfold HE at hk;split at hk
  ·rename_i g caps xs hf hx
   obtain⟨hok,hc⟩:=hk;have hf':=AN h hf;generalize hv:a.eval f=fv at hf'
   cases hf' with
   |fn _ _ _ ys hl hxx=>
    have hr:=(Bs h hx).append ⟨hl,hxx⟩;have hcall:=hc th z a w _ h hr;unfold Oper.wp
    have hrun:(execOp a.eval ⟨dst,.call {callee:= .value f,args:=args,argTypes:=ats},ty,pos,aft,gd⟩).run P w= .ok (.enter g (List.map a.eval args.toList++ys).toArray) w:=by
     simp only[execOp,resolve,hv,Deferred.ofValue,Sem.run_bind,Sem.run_pure,Result.andThen_ok,invoke];rw[EO hok]
     congr 2
     apply Array.ext';simp
    rw[hrun,Oper.upon_enter];refine hcall.mono ?_;rintro e w' ⟨v,x,st',th',z',hh,hm,hs,hrr,_,hext⟩;have hext:=hext.ext
    rcases hh with ⟨rfl,hk⟩ |⟨rfl,hk⟩
    ·exact hn x st' th' z' _ w' hk (hs.put hrr dst hd) hext
    ·exact hp x v st' th' z' w' hk hs hrr
  ·exact hk.elim
 ·exact BK (KC h (D5 _ _ _ _ _ hk)) hd (fun x st' th' z' a' w' h1 _ h2 h3=>hn x st' th' z' a' w' h1 h2 (h3 rfl))
 ·exact BK (Gl h (D5 _ _ _ _ _ hk)) hd (fun x st' th' z' a' w' h1 _ h2 h3=>hn x st' th' z' a' w' h1 h2 (h3 rfl))
 ·exact BK (Fp h hk) hd (fun x st' th' z' a' w' h1 _ h2 h3=>hn x st' th' z' a' w' h1 h2 (h3 rfl))
 ·exact BK (EZ h hk) hd (fun x st' th' z' a' w' h1 _ h2 h3=>hn x st' th' z' a' w' h1 h2 (h3 rfl))
 ·exact BK (E5 h (D5 _ _ _ _ _ hk)) hd (fun x st' th' z' a' w' h1 _ h2 h3=>hn x st' th' z' a' w' h1 h2 (h3 rfl))
 ·obtain⟨_,hk⟩:=hk
  unfold F7 at hk;split at hk
  ·rename_i v hq
   obtain⟨u,hr,hrun⟩:=Eo h ⟨dst,op,ty,pos,aft,gd⟩ hq;unfold Oper.wp;rw[hrun w SameK.refl,Oper.upon_value];exact hn v st th z _ w hk (h.put hr dst hd) (Ext.refl w)
  ·exact hk.elim
theorem Ko {op:Op}{k kp:AV→AS→Prop}(hq:DG op=true)(hk:Dx P E N st op k kp): ∃v,qv P E.G st op=some v∧k v st:=by
 unfold Dx at hk;split at hk
 ·simp[DG] at hq
 ·simp[DG] at hq
 ·simp[DG] at hq
 ·simp[DG] at hq
 ·simp[DG] at hq
 ·simp[DG] at hq
 ·obtain⟨_,hk⟩:=hk
  unfold F7 at hk;split at hk
  ·rename_i v hv;exact⟨v,hv,hk⟩
  ·exact hk.elim
theorem H8 {ops:Array Oper}{kp:AV→AS→Prop}{Q:Exit→Act→World→Prop}{K:AS→Prop}{n:Nat}(hQ: ∀c a d v w,Q (.panic c) (a.put d v) w→Q (.panic c) a w)
  (hp: ∀x v st' th' z' a' w',kp x st'→Sim E N st' th' z' a' w'→Rep w' z' th' x v→Q (.panic [{v:=v,recovered:=false}]) a' w')
  (hK: ∀st' th' z' a' w',K st'→Sim E N st' th' z' a' w'→Q .normal a' w') (hd: ∀o ∈ ops.toList,∀i,o.dst=some i→i<N)
  (h1:Region.noSelect ops=true) (h2: ∀s,HeadInv .any ops n s→ ∀i,i<n→s.getD i true=false→ ∀j ∈ Region.ready .any ops s,j<n):
  ∀(ord:List Nat){s:Array Bool}{st:AS}{th:List NLoc}{z:Ag}{a:Act}{w:World},HeadInv .any ops n s→Gy ops n ord s=true→Sim E N st th z a w→F2 P E N (Cz ops) kp (ops.toList.drop n) (D2 ops ord) st K→O4 P ops Q n (Md P ops Q n) ord.length s a w
 | [],s,st,th,z,a,w,inv,ho,h,hx=>⟨ho,Cq hp hK _ (fun o ho=>hd o (List.mem_of_mem_drop ho)) h hx⟩
 |i::rest,s,st,th,z,a,w,inv,ho,h,hx=>by
  simp only[Gy,Bool.and_eq_true,decide_eq_true_eq] at ho;obtain⟨⟨hin,ho1⟩,ho2⟩:=ho
  cases hi:ops[i]? with
  |none=>rw[hi] at ho1;simp at ho1
  |some o=>
   simp only[D2,List.filterMap_cons,hi] at hx;unfold F2 at hx;change Eb _ (Dx P E N st o.op (fun v st'=>F2 P E N (Cz ops) kp (ops.toList.drop n) (D2 ops rest) (st'.put o.dst v) K) kp) (F2 P E N (Cz ops) kp (ops.toList.drop n) (D2 ops rest) (st.put o.dst (.r (.tuple #[]))) K) at hx;have hmem:o ∈ ops.toList:=Array.mem_toList_iff.2 (Array.mem_of_getElem? hi);have hdo:=hd o hmem;simp only[hi] at ho1;have ih: ∀ {s:Array Bool}{st:AS}{th:List NLoc}{z:Ag}{a:Act}{w:World},HeadInv .any ops n s→Gy ops n rest s=true→Sim E N st th z a w→F2 P E N (Cz ops) kp (ops.toList.drop n) (D2 ops rest) st K→O4 P ops Q n (Md P ops Q n) rest.length s a w:=
    H8 hQ hp hK hd h1 h2 rest
   have guard:=Ez h hx;split at ho1
   ·rename_i hq
    simp only[Bool.and_eq_true] at ho1;obtain⟨hr,hf⟩:=ho1
    have hr':i ∈ Region.ready .any ops s:=by simpa using hr
    rcases guard with ⟨hw,hs⟩ |⟨hw,hs⟩
    ·obtain⟨x,hqv,hs⟩:=Ko hq hs
     obtain⟨v,hrep,hrun⟩:=Eo h o hqv;exact Il hi (Region.noSelect_spec h1) (fun c a w=>hQ c a _ _ w) h2 hin (fun s a w hL=>seqB_ready hL.1) _ s a w inv (Region.free_spec hi hf) hr' (.inl ⟨hw,fun w' e=>hrun w' (e.sameK h)⟩)
      (ih (inv.set hr' hin) ho2 (h.put hrep o.dst hdo) hs)
    ·exact Il hi (Region.noSelect_spec h1) (fun c a w=>hQ c a _ _ w) h2 hin (fun s a w hL=>seqB_ready hL.1) _ s a w inv (Region.free_spec hi hf) hr' (.inr ⟨hw,rfl⟩)
      (ih (inv.set hr' hin) ho2 (h.put (.r th undef) o.dst hdo) hs)
   ·simp only[decide_eq_true_eq] at ho1
    have hr':i ∈ Region.ready .any ops s:=by rw[ho1];simp
    refine⟨fun h0=>(by rw[h0] at hr';cases hr'),fun j hj=>?_⟩;rw[ho1] at hj
    obtain rfl:j=i:=by simpa using hj
    refine⟨hin,?_⟩;unfold wpOp;simp only[hi]
    rcases guard with ⟨hw,hs⟩ |⟨hw,hs⟩
    ·rw[if_pos hw]
     exact .inl (Dw h o hs hdo (fun x st' th' z' a' w' g1 g2 g3=>⟨g3,ih (inv.set hr' hin) ho2 g2 g1⟩) (fun x v st' th' z' w' g1 g2 g3=>hp x v st' th' z' a w' g1 g2 g3))
    ·rw[if_neg (by rw[hw];exact Bool.false_ne_true)]
     exact⟨Ext.refl w,ih (inv.set hr' hin) ho2 (h.put (.r th undef) o.dst hdo) hs⟩
theorem IM (w:World):Ext w w.drew:=⟨Nat.le_refl _,fun _ _=>rfl,⟨rfl,rfl,rfl⟩⟩
theorem PL {id:Nat}{ops:Array Oper}{AQ:AExit→AS→Prop}{ds:List (Option Nat)}{l l':List Oper}(hm:P.follows .mixedOrders=true)(n:Nat)(ord:List Nat)(hB:Fi ops n ord=true)(hd:E2 N ops=true)
  (hds:Cz ops=ds) (ht:ops.toList.drop n=l') (hh:D2 ops ord=l) (h:F2 P E N ds (fun x st=>AQ (.pan x) st) l' l st (AQ .normal)):AWP P E N (.region id ops true) st AQ:=by
 subst hds ht hh;intro Q hQ th z a w hs;simp only[Fi,Bool.and_eq_true,decide_eq_true_eq] at hB;obtain⟨⟨⟨b1,b2⟩,b5⟩,b6⟩:=hB
 have hle:n≤ops.size:=by
  rcases Bool.or_eq_true _ _▸b2 with b2 |b2
  ·exact Nat.le_of_eq (of_decide_eq_true b2)
  ·simp only[Bool.and_eq_true,decide_eq_true_eq] at b2;exact Nat.le_of_lt b2.2
 have hlt: ∀s,HeadInv .any ops n s→ ∀i,i<n→s.getD i true=false→ ∀j ∈ Region.ready .any ops s,j<n:=by
  intro s inv i hi hs j hj
  rcases Bool.or_eq_true _ _▸b2 with b2 |b2
  ·have:=of_decide_eq_true b2
   obtain⟨_,oj,hoj,_⟩:=mem_ready.1 hj;rw[this];exact(Array.getElem?_eq_some_iff.1 hoj).1
  ·simp only[Bool.and_eq_true,decide_eq_true_eq] at b2
   by_cases h:j<n
   ·exact h
   ·exact absurd hj (tail_waits b2.1.1 b2.1.2 b2.2 inv _ i rfl hi hs j (by omega))
 let Q':Exit→Act→World→Prop:=fun e a w=>match e with
  | .panic c=> ∀a':Act,a'.defers=a.defers→Q (.panic c) a' w
  |e=>Q e a w
 refine wp_mono (Q:=Q') ?_ (fun e a w hq=>by
  cases e
  case panic c=>exact hq a rfl
  all_goals exact hq)
 have inv0:HeadInv .any ops n (Array.replicate ops.size false):=
  ⟨by simp,fun j oj _ hl=>(by rw[getD_replicate_false] at hl;cases hl),fun t _ ht=>getD_in (by simpa using ht) (getD_replicate_false _ _)⟩
 refine wp_region_any hm ?_;have key:=H8 (Q:=Q') (K:=AQ .normal) (kp:=fun x st=>AQ (.pan x) st) (P:=P) (fun c a d v w hq a' ha=>hq a' (by rw[ha];cases d<;>rfl)) (fun x v st' th' z' a' w' g1 g2 g3 a2 ha=>hQ.2.2.2 x v st' th' z' w' g1 g2.mem g3 a2 (ha.trans g2.dfs))
  (fun st' th' z' a' w' g1 g2=>hQ.1 st' th' z' a' w' g1 g2) (Dr hd) b1 hlt ord inv0 b6 (hs.ext (IM w)) h
 have:=LV (g:=ops.size - n) (fun s a w hL=>by
  have:=wpAny_of_seq (md:= .any) (Q':=Q') (ops.toList.drop n) n s a w (fun j=>by simp[List.getElem?_drop]) (by simpa using hL.1) hL.2
  simpa using this) _ _ _ _ key
 rw[b5,show n+(ops.size - n)=ops.size by omega] at this;exact this
end
end Go.AM
namespace Go.AM
open Go
def Is (res:AV)(o:List (Nat×Nd))(n:Nat):AV→List (Nat×Nd)→Nat→Prop:=fun y o' n'=>y=res∧o'=o∧n'=n
def No:AV→List (Nat×Nd)→Nat→Prop:=fun _ _ _=>False
section
variable {P:Program} {E:Env} {N:Nat} {st:AS} {th:List NLoc} {z:Ag} {a:Act} {w:World}
theorem GD (d:Nat)(T:TypeId)(k:Nat)(h:lk st.m d=some (.r (.slice none 0 0))):Emb E N st {m:=(d,.s st.n 0 0)::st.m,o:=(st.n,.lst T k [])::st.o,n:=st.n+1}:=by
 intro th z a w hs;have hk:=hs.know ⟨0,0,0,0,true⟩ (.lst T k []) (fun hp=>by cases hp) (fun _ _ _ _ _ _ hp=>by cases hp) (.inl ⟨rfl,rfl⟩) (.inl rfl);refine⟨_,z,hk.mem,hk.size,hk.dfs,fun i x hi=>?_⟩;simp only[lk] at hi;split at hi
 ·rename_i e;subst e;cases hi
  obtain⟨y,hy,hr⟩:=hs.slots d _ h;obtain rfl:=hr.r_inv;exact⟨_,hy,.sn _ _ 0 _ (hs.get_new _) rfl⟩
 ·exact hk.slots i x hi
theorem CJ {x x' y:AV}{st':AS}{o:List (Nat×Nd)}{n:Nat}(hf:GL st x=some (x',st'))(h:Io E N st' x' o n y):Io E N st x o n y:=by
 intro th z a w v hs hr;obtain⟨z',hz,hs',hr',hm,hn⟩:=FK x hs hr hf;exact h th z' a w v hs' (hr'.pure th)
theorem Ig {f:Nat}{xs ys:List AV}{res:AV}{os:List (Nat×Nd)}{m:Nat}{k kp:AV→AS→Prop}(hc:Con P E.G f ys [] 0 (Is res os m) No)(hb:D7 st xs=some ys)(hp:PT res)(hp': ∀p ∈ os,E8 p.2)
  (hk:k (ren (· +st.n) res) {st with o:=Jl st.n os++st.o,n:=st.n+m}):CallG P E N f xs st k kp:=
 KP hc hb (fun y o n ⟨h1,h2,h3⟩=>by subst h1 h2 h3;exact⟨hp,hp',hk⟩) (fun _ _ _ h=>h.elim)
end
end Go.AM
namespace Go.AM
open Go
def LY:List Nat→Nat→Option Nat
 | [],_=>none
 |m::r,j=>if m=j then some 0 else (LY r j).map (· +1)
theorem HW: ∀ {σ:List Nat}{m i:Nat},LY σ m=some i→σ[i]?=some m
 | [],m,i,h=>by simp[LY] at h
 |k::r,m,i,h=>by
  simp only[LY] at h;split at h
  ·rename_i e;subst e;cases h;rfl
  ·simp only[Option.map_eq_some_iff] at h
   obtain⟨j,hj,rfl⟩:=h;simpa using HW hj
theorem Ey: ∀ {σ:List Nat}{m:Nat},LY σ m=none→m ∉ σ
 | [],m,h=>by simp
 |k::r,m,h=>by
  simp only[LY] at h;split at h
  ·cases h
  ·rename_i e
   simp only[Option.map_eq_none_iff] at h;simp[Ne.symm e,Ey h]
mutual
def Ip (σ:List Nat)(st:AS):AV→Option AV
 | .s n lo len=>match LY σ n with
   |some i=>some (.s i lo len)
   |none=>Eg st (.s n lo len)
 | .p n i off=>match LY σ n with
   |some j=>some (.p j i off)
   |none=>Eg st (.p n i off)
 | .r v=>some (.r v)
 | .ro t k els=>some (.ro t k els)
 | .re t c off=>some (.re t c off)
 | .agg c=>(Dt σ st c).map .agg
 | .tup c=>(Dt σ st c).map .tup
 | .fn f c=>(Dt σ st c).map (.fn f)
 | .ifc t x=>(Ip σ st x).map (.ifc t)
 | .q n=>match LY σ n with
   |some j=>some (.q j)
   |none=>none
 | .u _ _ _=>none
 | .any=>some .any
def Dt (σ:List Nat)(st:AS):List AV→Option (List AV)
 | []=>some []
 |x::r=>match Ip σ st x,Dt σ st r with
  |some a,some l=>some (a::l)
  |_,_=>none
end
def fw (σ:List Nat)(n:Nat)(i:Nat):Nat:=match σ[i]? with
 |some m=>m
 |none=>n+(i - σ.length)
def Cx (φ:Nat→Nat)(o:List (Nat×Nd)):List (Nat×Nd):=o.map fun p=>(φ p.1,A9 φ p.2)
def Gw (σ:List Nat)(o:List (Nat×Nd)):List (Nat×Nd):=σ.foldl (fun o i=>rm o i) o
theorem K2: ∀(σ:List Nat)(o:List (Nat×Nd))(j:Nat),lk (Gw σ o) j=if j ∈ σ then none else lk o j
 | [],o,j=>by simp[Gw]
 |m::r,o,j=>by
  have:=K2 r (rm o m) j;simp only[Gw,List.foldl_cons] at this ⊢;rw[this,H3]
  by_cases h1:j ∈ r
  ·simp[h1]
  ·by_cases h2:m=j
   ·subst h2;simp
   ·simp[h1,h2,Ne.symm h2]
theorem Mk {φ:Nat→Nat}: ∀ {o:List (Nat×Nd)},(∀p ∈ o,∀q ∈ o,φ p.1=φ q.1→p.1=q.1)→ ∀ {j:Nat}{nd:Nd},lk (Cx φ o) j=some nd→ ∃i x,lk o i=some x∧j=φ i∧nd=A9 φ x
 | [],_,j,nd,h=>by simp[Cx,lk] at h
 |(i,x)::r,hi,j,nd,h=>by
  simp only[Cx,List.map_cons,lk] at h;split at h
  ·rename_i e;cases h;exact⟨i,x,by simp[lk],e.symm,rfl⟩
  ·rename_i e
   obtain⟨i',x',h1,h2,h3⟩:=Mk (fun p hp q hq=>hi p (by simp[hp]) q (by simp[hq])) (show lk (Cx φ r) j=some nd from h);refine⟨i',x',?_,h2,h3⟩;simp only[lk];rw[if_neg]
   ·exact h1
   ·intro e2;subst e2;exact e h2.symm
section
variable {P:Program} {E:Env} {N:Nat} {st:AS} {th:List NLoc} {z:Ag} {a:Act} {w:World}
def KS (U:Nat→Nat→Prop)(st:AS)(σ:List Nat)(th:List NLoc)(b:Nat):Prop:=(∃(i m:Nat)(nd:Nd)(L:NLoc),σ[i]?=some m∧lk st.o m=some nd∧th[m]?=some L∧L.ph=false∧L.b=b)∨ ∃m ∈ σ,U m b
def zg (U:Nat→Nat→Prop)(st:AS)(σ:List Nat)(th:List NLoc)(w:World)(z:Ag):Ag:=fun t b=>if t then z true b else (b<w.heap.size∧ ¬KS U st σ th b)
variable {U:Nat→Nat→Prop}
theorem Mo (h:Sim E N st th z a w)(hU:UlOK U E st.o th z w){σ:List Nat}{t:Bool}{b:Nat}(hb:z t b): ¬KS U st σ th b:=by
 rintro(⟨i,m,nd,L,h1,h2,h3,h4,rfl⟩ |⟨m,_,hm⟩)
 ·obtain⟨L',k1,_,k3⟩:=h.mem.nds m nd h2
  rw[h3] at k1;cases k1;exact(k3 h4).2.1 t hb
 ·exact hU.nz m b hm t hb
theorem Fd (h:Sim E N st th z a w)(hU:UlOK U E st.o th z w)(σ:List Nat): ∀t b,z t b→zg U st σ th w z t b:=by
 intro t b hb;cases t
 ·exact⟨h.mem.zlt _ _ hb,Mo h hU hb⟩
 ·exact hb
theorem FJ (h:Sim E N st th z a w)(hU:UlOK U E st.o th z w){σ:List Nat}{m:Nat}{nd:Nd}{L:NLoc}(hm:m ∉ σ)(h1:lk st.o m=some nd)(h2:th[m]?=some L)(h3:L.ph=false): ¬KS U st σ th L.b:=by
 rintro(⟨i,m',nd',L',g1,g2,g3,g4,g5⟩ |⟨m',_,g⟩)
 ·have:=h.mem.inj m' m nd' nd L' L g2 h1 g3 h2 g4 h3 g5
  subst this;exact hm (List.mem_of_getElem? g1)
 ·exact hU.kn m nd L m' h1 h2 h3 g
theorem LF (h:Sim E N st th z a w)(hU:UlOK U E st.o th z w){σ:List Nat}{m b:Nat}(hm:m ∉ σ)(hb:U m b): ¬KS U st σ th b:=by
 rintro(⟨i,m',nd',L',g1,g2,g3,g4,rfl⟩ |⟨m',hm',g⟩)
 ·exact hU.kn m' nd' L' m g2 g3 g4 hb
 ·have:=hU.inj _ _ _ hb g
  subst this;exact hm hm'
mutual
theorem JE (h:Sim E N st th z a w)(hU:UlOK U E st.o th z w){σ:List Nat}(hσ: ∀m ∈ σ,m<th.length): ∀(x:AV){y:AV}{v:Value},Ip σ st x=some y→Rep w z th x v→Rep w (zg U st σ th w z) (DL th σ) y v
 | .s n lo len,y,v,hb,hr=>by
   simp only[Ip] at hb;split at hb
   ·rename_i i hi;cases hb
    have hg:=BE (th:=th) hσ (HW hi)
    cases hr with
    |s _ _ _ _ c o L hL hp hl hc ho=>exact .s _ _ _ _ c o L (by rw[hg];exact hL) hp hl hc ho
    |sn _ _ lo L hL hp=>exact .sn _ _ _ L (by rw[hg];exact hL) hp
   ·rename_i hi
    simp only[Eg] at hb;split at hb
    ·rename_i T k els hn
     split at hb
     ·rename_i hle;cases hb
      obtain⟨L,h1,h2,h3⟩:=h.mem.nds n _ hn;have:=hr.seen (z':=zg U st σ th w z) (t:=false) h1 h2 hle (fun hp=>(show L.b<w.heap.size∧ ¬KS U st σ th L.b from⟨(h3 hp).1,FJ h hU (Ey hi) hn h1 hp⟩)) (Fd h hU σ) (DL th σ);exact this
     ·cases hb
    ·rename_i T k els hn
     split at hb
     ·rename_i hle;cases hb
      obtain⟨L,h1,h2,h3⟩:=h.mem.nds n _ hn;have:=hr.seenU (z':=zg U st σ th w z) (t:=false) h1 h2 (hU.at_ _ _ _ _ _ _ hn h1) hle (fun hp=>(show L.b<w.heap.size∧ ¬KS U st σ th L.b from⟨(h3 hp).1,FJ h hU (Ey hi) hn h1 hp⟩))
       (fun b hb=>(show b<w.heap.size∧ ¬KS U st σ th b from⟨hU.lt n b hb,LF h hU (Ey hi) hb⟩)) (Fd h hU σ) (DL th σ)
      exact this
     ·cases hb
    ·cases hb
 | .p n i off,y,v,hb,hr=>by
   simp only[Ip] at hb;split at hb
   ·rename_i j hj;cases hb
    have hg:=BE (th:=th) hσ (HW hj)
    cases hr with
    |p _ _ _ _ L hL=>exact .p _ _ _ _ L (by rw[hg];exact hL)
   ·rename_i hi
    simp only[Eg] at hb;split at hb
    ·rename_i T c hn
     split at hb
     ·rename_i hii;subst hii
      simp only[Option.map_eq_some_iff] at hb;obtain⟨c',hc,rfl⟩:=hb;obtain⟨rfl,hg⟩:=Gm hc;obtain⟨L,h1,⟨hp,cells,fr,h2,h3,h4,h5⟩,h6⟩:=h.mem.nds n _ hn;obtain⟨h6,h7,h8⟩:=h6 hp;obtain⟨L',hL',rfl⟩:=hr.p_inv;rw[h1] at hL';cases hL'
      have:=Rep.re_mk (w:=w) (z:=zg U st σ th w z) (th:=DL th σ) (t:=false) (c:=c') (b:=L.b) (o:=0) (off:=off) (show L.b<w.heap.size∧ ¬KS U st σ th L.b from⟨h6,FJ h hU (Ey hi) hn h1 hp⟩) (fun j x hj=>by
       obtain⟨y,hy,hr⟩:=h5.get hj;refine⟨y,?_,(hr.ground (hg x (List.mem_of_getElem? hj)) []).on' ⟨Fd h hU σ,fun _ _ _=>rfl⟩⟩
       rw[CB h2];simpa using hy)
      simpa[h4] using this
     ·cases hb
    ·cases hb
 | .r u,y,v,hb,hr=>by simp only[Ip,Option.some.injEq] at hb;subst hb;exact(hr.ground (.inl ⟨_,rfl⟩) _).on' ⟨Fd h hU σ,fun _ _ _=>rfl⟩
 | .ro t k els,y,v,hb,hr=>by simp only[Ip,Option.some.injEq] at hb;subst hb;exact(hr.ground (.inr (.inl ⟨_,_,_,rfl⟩)) _).on' ⟨Fd h hU σ,fun _ _ _=>rfl⟩
 | .re t c off,y,v,hb,hr=>by simp only[Ip,Option.some.injEq] at hb;subst hb;exact(hr.ground (.inr (.inr ⟨_,_,_,rfl⟩)) _).on' ⟨Fd h hU σ,fun _ _ _=>rfl⟩
 | .agg c,y,v,hb,hr=>by
   simp only[Ip,Option.map_eq_some_iff] at hb;obtain⟨c',hc,rfl⟩:=hb;obtain⟨ys,rfl,hys⟩:=hr.agg_inv;have:=Dm h hU hσ c hc hys;exact .agg _ _ _ this.1 this.2
 | .tup c,y,v,hb,hr=>by
   simp only[Ip,Option.map_eq_some_iff] at hb;obtain⟨c',hc,rfl⟩:=hb;obtain⟨ys,rfl,hys⟩:=hr.tup_inv;have:=Dm h hU hσ c hc hys;exact .tup _ _ _ this.1 this.2
 | .fn f c,y,v,hb,hr=>by
   simp only[Ip,Option.map_eq_some_iff] at hb;obtain⟨c',hc,rfl⟩:=hb
   cases hr with
   |fn _ _ _ ys hl hx=>
    have:=Dm h hU hσ c hc ⟨hl,hx⟩;exact .fn _ _ _ _ this.1 this.2
 | .ifc t x,y,v,hb,hr=>by
   simp only[Ip,Option.map_eq_some_iff] at hb;obtain⟨c',hc,rfl⟩:=hb
   cases hr with
   |ifc _ _ _ u hu=>exact .ifc _ _ _ _ (JE h hU hσ x hc hu)
 | .q n,y,v,hb,hr=>by
   simp only[Ip] at hb;split at hb
   ·rename_i j hj;cases hb
    have hg:=BE (th:=th) hσ (HW hj)
    cases hr with
    |q _ _ L hL=>exact .q _ _ L (by rw[hg];exact hL)
   ·cases hb
 | .u T k els,y,v,hb,hr=>by simp[Ip] at hb
 | .any,y,v,hb,hr=>by simp only[Ip,Option.some.injEq] at hb;subst hb;exact .any _ _
theorem Dm (h:Sim E N st th z a w)(hU:UlOK U E st.o th z w){σ:List Nat}(hσ: ∀m ∈ σ,m<th.length): ∀(c:List AV){d:List AV}{vs:List Value},Dt σ st c=some d→Reps w z th c vs→Reps w (zg U st σ th w z) (DL th σ) d vs
 | [],d,vs,hb,hr=>by
   simp only[Dt,Option.some.injEq] at hb;subst hb;obtain rfl:=hr.of_nil;exact .nil
 |x::r,d,vs,hb,hr=>by
  simp only[Dt] at hb;split at hb
  ·rename_i y l h1 h2;cases hb
   obtain⟨v,vs',rfl,hv,hvs⟩:=hr.head;exact .cons (JE h hU hσ x h1 hv) (Dm h hU hσ r h2 hvs)
  ·cases hb
end
theorem RV {σ:List Nat}{n:Nat}(hσ: ∀m ∈ σ,m<n)(hnd:σ.Nodup){i j:Nat}(h:fw σ n i=fw σ n j):i=j:=by
 unfold fw at h;split at h
 ·rename_i m hm
  split at h
  ·rename_i m' hm'
   subst h;obtain⟨l1,e1⟩:=List.getElem?_eq_some_iff.1 hm;exact(List.getElem?_inj l1 hnd).1 (hm.trans hm'.symm)
  ·have:=hσ m (List.mem_of_getElem? hm);omega
 ·rename_i hm
  have hi:σ.length≤i:=List.getElem?_eq_none_iff.1 hm;split at h
  ·rename_i m' hm'
   have:=hσ m' (List.mem_of_getElem? hm');omega
  ·rename_i hm'
   have hj:σ.length≤j:=List.getElem?_eq_none_iff.1 hm';omega
theorem UlOK.tight {o:List (Nat×Nd)}(hU:UlOK U E o th z w): ∃U',UlOK U' E o th z w∧ ∀i b,U' i b→ ∃T k els op,lk o i=some (.ul T k els op):=
 ⟨fun i b=>(∃T k els op,lk o i=some (.ul T k els op))∧U i b,⟨fun i T k els op L hi hL=>let ⟨F,h1,h2,h3⟩:=hU.at_ i T k els op L hi hL;⟨F,fun a b c hc=>⟨⟨T,k,els,op,hi⟩,h1 a b c hc⟩,h2,h3⟩,fun i b hb=>hU.lt i b hb.2,fun i b hb=>hU.nz i b hb.2,fun i b hb=>hU.ow i b hb.2,fun i j b hb hb'=>hU.inj i j b hb.2 hb'.2,fun i nd L j hi hL hp hb=>hU.kn i nd L j hi hL hp hb.2⟩,fun i b hb=>hb.1⟩
def Ss (σ:List Nat)(st:AS):Prop:= ∀m ∈ σ,∀T k els op,lk st.o m≠some (.ul T k els op)
def CallW (P:Program)(E:Env)(N:Nat)(f:Nat)(xs:List AV)(st:AS)(ts:List Nat)(k kp:AV→AS→Prop):Prop:=
 Kt P f=true∧ ∀th z a w vs,Sim E N st th z a w→Reps w z th xs vs→Calls P f vs.toArray w (fun e w'=> ∃v x st' th' z',((e= .returned v∧k x st')∨(e= .panicked [{v:=v,recovered:=false}]∧kp x st'))∧st'.m=st.m∧Sim E N st' th' z' a w'∧Rep w' z' th' x v∧Later th th'∧(Ss ts st→ExtT th ts w w'))
theorem CallW.t {f:Nat}{xs:List AV}{ts:List Nat}{k kp:AV→AS→Prop}(h:CallW P E N f xs st ts k kp)(hn:Ss ts st):CallT P E N f xs st ts k kp:=
 ⟨h.1,fun th z a w vs h1 h2=>(h.2 th z a w vs h1 h2).mono fun e w' ⟨v,x,st',th',z',h3,h4,h5,h6,h7,h8⟩=>⟨v,x,st',th',z',h3,h4,h5,h6,h7,h8 hn⟩⟩
theorem CallW.v {f:Nat}{xs:List AV}{ts:List Nat}{k kp:AV→AS→Prop}(h:CallW P E N f xs st ts k kp):CallV P E N f xs st k kp:=
 ⟨h.1,fun th z a w vs h1 h2=>(h.2 th z a w vs h1 h2).mono fun e w' ⟨v,x,st',th',z',h3,h4,h5,h6,_⟩=>⟨v,x,st',th',z',h3,h4,h5,h6⟩⟩
theorem Ea {f:Nat}{σ:List Nat}{xs ys:List AV}{oc:List (Nat×Nd)}{Q R:AV→List (Nat×Nd)→Nat→Prop}{k kp:AV→AS→Prop}(hc:Con P E.G f ys oc σ.length Q R)(hb:Dt σ st xs=some ys)(ho:AH σ st.o oc)(hall: ∀i,i<σ.length→ ∃nd,lk oc i=some nd)
  (hlt: ∀m ∈ σ,m<st.n) (hnd:σ.Nodup) (hbig:st.n≤1000000000)
  (hk: ∀y o n,Q y o n→PT y∧(∀p ∈ o,E8 p.2)∧k (ren (fw σ st.n) y) {st with o:=Cx (fw σ st.n) o++Gw σ st.o,n:=st.n+(n - σ.length)})
  (hkp: ∀y o n,R y o n→PT y∧(∀p ∈ o,E8 p.2)∧kp (ren (fw σ st.n) y) {st with o:=Cx (fw σ st.n) o++Gw σ st.o,n:=st.n+(n - σ.length)}):CallW P E N f xs st σ k kp:=by
 refine⟨hc.1,fun th z a w vs hs hr=>?_⟩;obtain⟨U0,hU0⟩:=hs.mem.uls;obtain⟨U,hU,hUt⟩:=hU0.tight
 have hσ: ∀m ∈ σ,m<th.length:=fun m hm=>by rw[hs.mem.len];exact hlt m hm
 have hm1:Mem ⟨E.w0,E.own,E.z0,E.G,[],[]⟩ st.o st.n th z w:=⟨hs.mem.len,hs.mem.nds,hs.mem.inj,hs.mem.zlt,hs.mem.grow,hs.mem.frame,hs.mem.zin,hs.mem.zout,hs.mem.zb,hs.mem.globs,fun i L hi=>by simp at hi,hs.mem.sys,⟨U,hU.at_,hU.lt,hU.nz,hU.ow,hU.inj,hU.kn⟩⟩;have hm2:=hm1.ren σ hlt hbig ho (fun i hi=>by simp at hi) hnd
 have known: ∀i m,σ[i]?=some m→ ∃x nd L,lk oc i=some x∧lk st.o m=some nd∧(DL th σ)[i]?=some L∧th[m]?=some L:=by
  intro i m hi;obtain⟨x,hx⟩:=hall i (List.getElem?_eq_some_iff.1 hi).1;obtain⟨j,hj,h2⟩:=ho _ (CG hx);simp only at hj;rw[hi] at hj;cases hj;obtain⟨L,h3,_⟩:=hs.mem.nds m _ h2;exact⟨x,_,L,hx,h2,by rw[BE hσ hi];exact h3,h3⟩
 have hgiv: ∀b,(∃i nd L,lk oc i=some nd∧(DL th σ)[i]?=some L∧L.ph=false∧L.b=b)→KS U st σ th b:=by
  rintro b ⟨i,nd,L,h1,h2,h3,h4⟩
  have hi:i<σ.length:=by have:=(List.getElem?_eq_some_iff.1 h2).1;simpa[DL] using this
  obtain⟨x,nd',L',k1,k2,k3,k4⟩:=known i σ[i] (by simp[hi]);rw[h2] at k3;cases k3;exact .inl ⟨i,σ[i],nd',L,by simp[hi],k2,k4,h3,h4⟩
 have lez:Le w z w (zg U st σ th w z):=⟨Fd hs hU σ,fun _ _ _=>rfl⟩
 have hzlt: ∀t b,zg U st σ th w z t b→b<w.heap.size:=by
  intro t b h;cases t
  ·exact h.1
  ·exact hs.mem.zlt _ _ h
 have hmem0:Mem ⟨w,KS U st σ th,zg U st σ th w z,E.G,DL th σ,[]⟩ oc σ.length (DL th σ) (zg U st σ th w z) w:=by
  refine⟨hm2.len,fun i nd hi=>?_,hm2.inj,hzlt,Nat.le_refl _,fun _ _ _=>rfl,fun _ _ h=>h,fun b h=> .inl h,fun b h=>h,fun g cs hg=>?_,fun i L hi=>hi,Sys.refl w,?_⟩
  ·obtain⟨L,h1,h2,h3⟩:=hm2.nds i nd hi
   have hown:L.ph=false→KS U st σ th L.b:=fun hp=>hgiv _ ⟨i,nd,L,hi,h1,hp,rfl⟩;refine⟨L,h1,by simpa using h2.on lez (fun _=>rfl) [],fun hp=>⟨(h3 hp).1,fun t ht=>?_,.inl (hown hp)⟩⟩;cases t
   ·exact ht.2 (hown hp)
   ·exact(h3 hp).2.1 true ht
  ·obtain⟨h1,h2⟩:=hs.mem.globs g cs hg
   exact⟨h1,h2⟩
  ·refine⟨fun i b=> ∃m,σ[i]?=some m∧U m b,fun i T k els op L hi hL=>?_,fun i b ⟨m,_,hb⟩=>hU.lt m b hb,fun i b ⟨m,hm,hb⟩ t ht=>?_,fun i b ⟨m,hm,hb⟩=> .inl (.inr ⟨m,List.mem_of_getElem? hm,hb⟩),fun i j b ⟨m,hm,hb⟩ ⟨m',hm',hb'⟩=>?_,fun i nd L j hi hL hp ⟨m,hm,hb⟩=>?_⟩
   ·obtain⟨j,hj,h2⟩:=ho _ (CG hi)
    simp only at hj;rw[BE hσ hj] at hL;obtain⟨F,f1,f2,f3⟩:=(((hU.at_ j T k els _ L h2 hL).unren (DI hσ (by rw[hs.mem.len];exact hbig))).on lez (fun _ _=>rfl) (.inr rfl) []:UlAt w _ (DL th σ++[]) _ _ _ _);rw[List.append_nil] at f3;exact⟨F,fun a b c hc=>⟨j,hj,f1 a b c hc⟩,f2,f3⟩
   ·cases t
    ·exact ht.2 (.inr ⟨m,List.mem_of_getElem? hm,hb⟩)
    ·exact hU.nz m b hb true ht
   ·have:=hU.inj _ _ _ hb hb'
    subst this;obtain⟨l1,e1⟩:=List.getElem?_eq_some_iff.1 hm;exact(List.getElem?_inj l1 hnd).1 (hm.trans hm'.symm)
   ·obtain⟨j',hj',h2⟩:=ho _ (CG hi)
    simp only at hj';rw[BE hσ hj'] at hL;exact hU.kn j' _ L m h2 hL hp hb
 refine(hc.2 w (DL th σ) (zg U st σ th w z) (KS U st σ th) vs hgiv hmem0 (Dm hs hU hσ xs hb hr)).mono ?_;rintro e w' ⟨v,y,o',n',th',z',hh,hm,hv⟩
 have hn':σ.length≤n':=by
  by_cases h0:σ.length=0
  ·omega
  ·have hi:σ.length - 1<σ.length:=by omega
   obtain⟨x,nd',L',k1,k2,k3,k4⟩:=known (σ.length - 1) σ[σ.length - 1] (by simp[hi]);have:=(List.getElem?_eq_some_iff.1 (hm.pre _ _ k3)).1;rw[hm.len] at this;omega
 have same: ∀b,b<w.heap.size→ ¬KS U st σ th b→w'.heap[b]?=w.heap[b]?:=fun b hb hg=>hm.frame b hb hg
 have extT:Ss σ st→ExtT th σ w w':=fun hno=>⟨hm.grow,fun b hb hne=>same b hb (by
  rintro(⟨i,m,nd,L,h1,h2,h3,h4,h5⟩ |⟨m,hm,hb⟩)
  ·exact hne m (List.mem_of_getElem? h1) L h3 h4 h5
  ·obtain⟨T,k,els,op,hq⟩:=hUt m b hb
   exact hno m hm T k els op hq),hm.sys⟩
 have main:PT y→(∀p ∈ o',E8 p.2)→Sim E N {st with o:=Cx (fw σ st.n) o'++Gw σ st.o,n:=st.n+(n' - σ.length)} (th++th'.drop σ.length) (PW z z') a w'∧Rep w' (PW z z') (th++th'.drop σ.length) (ren (fw σ st.n) y) v:=by
  intro hy hop
  have hsub: ∀t b,z t b→PW z z' t b:=by
   intro t b hb;cases t
   ·exact hb
   ·exact hm.zin true b (show zg U st σ th w z true b from hb)
  have le:Le w z w' (PW z z'):=⟨hsub,fun t b hb=>same b (hs.mem.zlt t b hb) (Mo hs hU hb)⟩
  have hfw: ∀(i:Nat) L,th'[i]?=some L→(th++th'.drop σ.length)[fw σ st.n i]?=some L:=by
   intro i L hi;unfold fw;split
   ·rename_i m hmm
    obtain⟨x,nd',L',k1,k2,k3,k4⟩:=known i m hmm;have:=hm.pre i L' k3;rw[hi] at this;cases this;exact BB _ k4
   ·rename_i hmm
    have hi':σ.length≤i:=List.getElem?_eq_none_iff.1 hmm;rw[List.getElem?_append_right (by rw[hs.mem.len];omega),hs.mem.len,List.getElem?_drop,show σ.length+(st.n+(i - σ.length) - st.n)=i by omega];exact hi
  have hz1: ∀b,z' true b→PW z z' true b:=fun b hb=>hb;have fresh: ∀b,z' true b→z true b∨KS U st σ th b∨w.heap.size≤b:=fun b hb=>hm.zout b hb
  have givE: ∀b,KS U st σ th b→(E.own b∨E.w0.heap.size≤b)∧b<w.heap.size∧ ∀t,¬z t b:=by
   rintro b (⟨i,m,nd,L,h1,h2,h3,h4,rfl⟩ |⟨m,_,hb⟩)
   ·obtain⟨L',k1,_,k3⟩:=hs.mem.nds m nd h2
    rw[h3] at k1;cases k1;exact⟨(k3 h4).2.2,(k3 h4).1,(k3 h4).2.1⟩
   ·exact⟨hU.ow m b hb,hU.lt m b hb,hU.nz m b hb⟩
  have keys: ∀p ∈ o',∀q ∈ o',fw σ st.n p.1=fw σ st.n q.1→p.1=q.1:=fun p _ q _ h=>RV hlt hnd h
  have look: ∀j nd,lk (Cx (fw σ st.n) o'++Gw σ st.o) j=some nd→(∃i x,lk o' i=some x∧j=fw σ st.n i∧nd=A9 (fw σ st.n) x)∨(j ∉ σ∧lk st.o j=some nd):=by
   intro j nd hj;rw[DE] at hj
   cases hq:lk (Cx (fw σ st.n) o') j with
   |some x=>rw[hq] at hj;cases hj;exact .inl (Mk keys hq)
   |none=>
    rw[hq] at hj;simp only[K2] at hj;split at hj
    ·cases hj
    ·exact .inr ⟨by assumption,hj⟩
  have newn: ∀i x,lk o' i=some x→ ∃L,th'[i]?=some L∧NdAt w' z' th' L x∧(L.ph=false→L.b<w'.heap.size∧(∀t,¬z' t L.b)∧(KS U st σ th L.b∨w.heap.size≤L.b)):=fun i x hi=>hm.nds i x hi
  have oldn: ∀j nd,j ∉ σ→lk st.o j=some nd→ ∃L,th[j]?=some L∧NdAt w z th L nd∧(L.ph=false→L.b<w.heap.size∧(∀t,¬z t L.b)∧(E.own L.b∨E.w0.heap.size≤L.b)∧ ¬KS U st σ th L.b):=by
   intro j nd hj hnd';obtain⟨L,h1,h2,h3⟩:=hs.mem.nds j nd hnd';exact⟨L,h1,h2,fun hp=>⟨(h3 hp).1,(h3 hp).2.1,(h3 hp).2.2,FJ hs hU hj hnd' h1 hp⟩⟩
  refine⟨⟨⟨?_,?_,?_,?_,?_,?_,?_,?_,?_,?_,?_,?_,?_⟩,hs.size,hs.dfs,fun i x hi=>?_⟩,(hv.back hz1 hy).ren hfw⟩
  ·simp[hs.mem.len,hm.len]
  ·intro j nd hj
   rcases look j nd hj with ⟨i,x,hx,rfl,rfl⟩ |⟨hj1,hj2⟩
   ·obtain⟨L,h1,h2,h3⟩:=newn i x hx
    refine⟨L,hfw _ _ h1,(h2.back hz1 (hop _ (CG hx))).ren hfw,fun hp=>?_⟩;obtain⟨h3,h4,h5⟩:=h3 hp;refine⟨h3,fun t ht=>?_,?_⟩
    ·cases t
     ·have hlt':=hs.mem.zlt _ _ (show z false L.b from ht)
      rcases h5 with h5 |h5
      ·exact Mo hs hU (show z false L.b from ht) h5
      ·omega
     ·exact h4 true ht
    ·rcases h5 with h5 |h5
     ·exact(givE _ h5).1
     ·exact .inr (Nat.le_trans hs.mem.grow h5)
   ·obtain⟨L,h1,h2,h3⟩:=oldn j nd hj1 hj2
    refine⟨L,BB _ h1,h2.on le (fun hp=>same _ (h3 hp).1 (h3 hp).2.2.2) _,fun hp=>?_⟩;obtain⟨h3,h4,h5,h6⟩:=h3 hp;refine⟨Nat.lt_of_lt_of_le h3 hm.grow,fun t ht=>?_,h5⟩;cases t
    ·exact h4 false ht
    ·rcases fresh _ ht with h7 |h7 |h7
     ·exact h4 true h7
     ·exact h6 h7
     ·omega
  ·intro i j x y L M hi hj hL hM e1 e2 hbb
   rcases look i x hi with ⟨i1,x1,hx1,rfl,rfl⟩ |⟨hi1,hi2⟩<;>rcases look j y hj with ⟨j1,y1,hy1,rfl,rfl⟩ |⟨hj1,hj2⟩
   ·obtain⟨L1,q1,_,q2⟩:=newn _ _ hx1
    obtain⟨L2,q3,_,q4⟩:=newn _ _ hy1;have r1:=hfw _ _ q1;rw[hL] at r1;cases r1;have r2:=hfw _ _ q3;rw[hM] at r2;cases r2;have:=hm.inj i1 j1 x1 y1 L M hx1 hy1 q1 q3 e1 e2 hbb;rw[this]
   ·obtain⟨L1,q1,_,q2⟩:=newn _ _ hx1
    obtain⟨L2,q3,_,q4⟩:=oldn _ _ hj1 hj2;have r1:=hfw _ _ q1;rw[hL] at r1;cases r1;have r2:=BB (th'.drop σ.length) q3;rw[hM] at r2;cases r2
    rcases(q2 e1).2.2 with h5 |h5
    ·rw[hbb] at h5;exact((q4 e2).2.2.2 h5).elim
    ·have:=(q4 e2).1;omega
   ·obtain⟨L1,q1,_,q2⟩:=newn _ _ hy1
    obtain⟨L2,q3,_,q4⟩:=oldn _ _ hi1 hi2;have r1:=hfw _ _ q1;rw[hM] at r1;cases r1;have r2:=BB (th'.drop σ.length) q3;rw[hL] at r2;cases r2
    rcases(q2 e2).2.2 with h5 |h5
    ·rw[←hbb] at h5;exact((q4 e1).2.2.2 h5).elim
    ·have:=(q4 e1).1;omega
   ·obtain⟨L1,q1,_,_⟩:=oldn _ _ hi1 hi2
    obtain⟨L2,q3,_,_⟩:=oldn _ _ hj1 hj2;have r1:=BB (th'.drop σ.length) q1;rw[hL] at r1;cases r1;have r2:=BB (th'.drop σ.length) q3;rw[hM] at r2;cases r2;exact hs.mem.inj i j x y L M hi2 hj2 q1 q3 e1 e2 hbb
  ·intro t b hb
   cases t
   ·exact Nat.lt_of_lt_of_le (hs.mem.zlt _ _ hb) hm.grow
   ·exact hm.zlt _ _ hb
  ·exact Nat.le_trans hs.mem.grow hm.grow
  ·intro b hb hob
   refine(same b (Nat.lt_of_lt_of_le hb hs.mem.grow) (fun hg=>?_)).trans (hs.mem.frame b hb hob)
   rcases(givE b hg).1 with h1 |h1
   ·exact hob h1
   ·omega
  ·intro t b hb;exact hsub t b (hs.mem.zin t b hb)
  ·intro b hb
   rcases fresh b hb with h1 |h1 |h1
   ·exact hs.mem.zout b h1
   ·exact .inr (givE b h1).1
   ·exact .inr (.inr (Nat.le_trans hs.mem.grow h1))
  ·intro b hb;exact hs.mem.zb b hb
  ·intro g cs hg
   obtain⟨h1,h2⟩:=hs.mem.globs g cs hg;exact⟨hsub _ _ h1,fun j v hv=>(CX (le.same _ _ h1) _).trans (h2 j v hv)⟩
  ·intro i L hi;exact BB _ (hs.mem.pre i L hi)
  ·exact hs.mem.sys.trans hm.sys
  ·obtain⟨V,hV⟩:=hm.uls
   have hVb: ∀i b,V i b→KS U st σ th b∨w.heap.size≤b:=fun i b hb=>hV.ow i b hb
   have cross: ∀i j b,V i b→j ∉ σ→U j b→False:=fun i j b h1 h2 h3=>by
    rcases hVb i b h1 with h4 |h4
    ·exact LF hs hU h2 h3 h4
    ·have:=hU.lt j b h3;omega
   refine⟨fun j b=>(∃i,fw σ st.n i=j∧V i b)∨(j ∉ σ∧U j b),fun j T k els op L hj hL=>?_,fun j b hb=>?_,fun j b hb t ht=>?_,fun j b hb=>?_,fun j j' b hb hb'=>?_,fun j nd L q hj hL hp hb=>?_⟩
   ·rcases look j _ hj with ⟨i,x,hx,rfl,he⟩ |⟨hj1,hj2⟩
    ·obtain⟨L',k1,_,_⟩:=newn _ _ hx
     have r1:=hfw _ _ k1;rw[hL] at r1;cases r1
     cases x with
     |ul T' k' els' op'=>
      simp only[A9,Nd.ul.injEq] at he;obtain⟨rfl,rfl,rfl,rfl⟩:=he;obtain⟨F,f1,f2,f3⟩:=((hV.at_ _ _ _ _ _ L hx k1).back hz1 (hop _ (CG hx))).ren hfw;exact⟨F,fun a b c hc=> .inl ⟨i,rfl,f1 a b c hc⟩,f2,f3⟩
     |_=>simp[A9] at he
    ·obtain⟨L',k1,k2,k3⟩:=oldn _ _ hj1 hj2
     have r1:=BB (th'.drop σ.length) k1;rw[hL] at r1;cases r1;obtain⟨F,f1,f2,f3⟩:=(hU.at_ j T k els op L hj2 k1).on le (fun b hb=>same b (hU.lt j b hb) (LF hs hU hj1 hb)) (k2.ul_nil.imp id (fun hp=>same _ (k3 hp).1 (k3 hp).2.2.2)) (th'.drop σ.length);exact⟨F,fun a b c hc=> .inr ⟨hj1,f1 a b c hc⟩,f2,f3⟩
   ·rcases hb with ⟨i,_,hb⟩ |⟨_,hb⟩
    ·exact hV.lt i b hb
    ·exact Nat.lt_of_lt_of_le (hU.lt j b hb) hm.grow
   ·rcases hb with ⟨i,_,hb⟩ |⟨hj,hb⟩
    ·cases t
     ·have hz0:z false b:=ht
      rcases hVb i b hb with h4 |h4
      ·exact Mo hs hU hz0 h4
      ·have:=hs.mem.zlt _ _ hz0;omega
     ·exact hV.nz i b hb true ht
    ·cases t
     ·exact hU.nz j b hb false ht
     ·rcases fresh _ ht with h7 |h7 |h7
      ·exact hU.nz j b hb true h7
      ·exact LF hs hU hj hb h7
      ·have:=hU.lt j b hb;omega
   ·rcases hb with ⟨i,_,hb⟩ |⟨_,hb⟩
    ·rcases hVb i b hb with h4 |h4
     ·exact(givE b h4).1
     ·exact .inr (Nat.le_trans hs.mem.grow h4)
    ·exact hU.ow j b hb
   ·rcases hb with ⟨i,rfl,hb⟩ |⟨hj,hb⟩<;>rcases hb' with ⟨i',rfl,hb'⟩ |⟨hj',hb'⟩
    ·rw[hV.inj i i' b hb hb']
    ·exact(cross i j' b hb hj' hb').elim
    ·exact(cross i' j b hb' hj hb).elim
    ·exact hU.inj j j' b hb hb'
   ·rcases look j _ hj with ⟨i,x,hx,rfl,he⟩ |⟨hj1,hj2⟩
    ·obtain⟨L',k1,_,k3⟩:=newn _ _ hx
     have r1:=hfw _ _ k1;rw[hL] at r1;cases r1
     rcases hb with ⟨i',_,hb⟩ |⟨hq,hb⟩
     ·exact hV.kn i x L i' hx k1 hp hb
     ·rcases(k3 hp).2.2 with h4 |h4
      ·exact LF hs hU hq hb h4
      ·have:=hU.lt q _ hb;omega
    ·obtain⟨L',k1,k2,k3⟩:=oldn _ _ hj1 hj2
     have r1:=BB (th'.drop σ.length) k1;rw[hL] at r1;cases r1
     rcases hb with ⟨i',_,hb⟩ |⟨hq,hb⟩
     ·rcases hVb i' _ hb with h4 |h4
      ·exact(k3 hp).2.2.2 h4
      ·have:=(k3 hp).1;omega
     ·exact hU.kn j nd L q hj2 k1 hp hb
  ·obtain⟨u,hu,hru⟩:=hs.slots i x hi
   exact⟨u,hu,hru.on le _⟩
 rcases hh with ⟨rfl,hq⟩ |⟨rfl,hq⟩
 ·obtain⟨h1,h2,h3⟩:=hk y o' n' hq
  obtain⟨m1,m2⟩:=main h1 h2;exact⟨v,_,_,_,_,.inl ⟨rfl,h3⟩,rfl,m1,m2,Br _ _,extT⟩
 ·obtain⟨h1,h2,h3⟩:=hkp y o' n' hq
  obtain⟨m1,m2⟩:=main h1 h2;exact⟨v,_,_,_,_,.inr ⟨rfl,h3⟩,rfl,m1,m2,Br _ _,extT⟩
theorem GH {f:Nat}{σ:List Nat}{xs ys:List AV}{oc:List (Nat×Nd)}{Q R:AV→List (Nat×Nd)→Nat→Prop}{k kp:AV→AS→Prop}(hc:Con P E.G f ys oc σ.length Q R)(hb:Dt σ st xs=some ys)(ho:AH σ st.o oc)(hall: ∀i,i<σ.length→ ∃nd,lk oc i=some nd)
  (hlt: ∀m ∈ σ,m<st.n) (hnd:σ.Nodup) (hbig:st.n≤1000000000) (hno:Ss σ st)
  (hk: ∀y o n,Q y o n→PT y∧(∀p ∈ o,E8 p.2)∧k (ren (fw σ st.n) y) {st with o:=Cx (fw σ st.n) o++Gw σ st.o,n:=st.n+(n - σ.length)})
  (hkp: ∀y o n,R y o n→PT y∧(∀p ∈ o,E8 p.2)∧kp (ren (fw σ st.n) y) {st with o:=Cx (fw σ st.n) o++Gw σ st.o,n:=st.n+(n - σ.length)}):CallT P E N f xs st σ k kp:=
 (Ea hc hb ho hall hlt hnd hbig hk hkp).t hno
end
end Go.AM
namespace Go.AM
open Go
inductive SR where
 |val (v:AV) (st:AS)
 |cond (c:Prop) (v:AV) (st:AS)
 |call (g:Nat) (xs:List AV)
 |pan (x:AV)
 |bad
def G1 (st:AS):Option AV→SR
 |some v=> .val v st
 |none=> .bad
def K0:Option (Prop×AV×AS)→SR
 |some (c,v,s)=> .cond c v s
 |none=> .bad
def O6 (P:Program)(G:List (Nat×List Value))(st:AS)(op:Op):Option (Prop×AV×AS)→SR
 |some (c,v,s)=> .cond c v s
 |none=>K0 (E6 P G st op)
theorem Lz (P:Program)(G:List (Nat×List Value))(st:AS)(op:Op):O6 P G st op (Cj P G st op)=K0 (EJ P G st op):=by
 unfold EJ
 cases Cj P G st op with
 |none=>rfl
 |some r=>obtain⟨c,v,s⟩:=r;rfl
def Pq:Option AV→Option (List AV)→SR
 |some (.fn g caps),some xs=> .call g (xs++caps)
 |_,_=> .bad
def RD:Option AV→SR
 |some (.ifc t v)=> .pan (.ifc t v)
 |_=> .bad
def Rc (P:Program)(G:List (Nat×List Value))(st:AS):Call→SR
 | {callee:= .value f,args,..}=>Pq (ev st G f) (Du st G args.toList)
 | {callee:= .builtin .append,args,argTypes}=>O6 P G st (.call {callee:= .builtin .append,args:=args,argTypes:=argTypes}) (Cj P G st (.call {callee:= .builtin .append,args:=args,argTypes:=argTypes}))
 | {callee:= .builtin .clear,args,argTypes}=>K0 (Cj P G st (.call {callee:= .builtin .clear,args:=args,argTypes:=argTypes}))
 |c=>G1 st (qv P G st (.call c))
def An (P:Program)(G:List (Nat×List Value))(st:AS):Op→SR
 | .call c=>Rc P G st c
 | .box T x=>K0 (Cj P G st (.box T x))
 | .alloc T=>K0 (Cj P G st (.alloc T))
 | .buildSlice T n ps=>O6 P G st (.buildSlice T n ps) (Cj P G st (.buildSlice T n ps))
 | .store T x v=>O6 P G st (.store T x v) (Cj P G st (.store T x v))
 | .makeMap T r=>K0 (E6 P G st (.makeMap T r))
 | .mapUpdate T m i v=>K0 (E6 P G st (.mapUpdate T m i v))
 | .makeSlice T l c=>K0 (Cj P G st (.makeSlice T l c))
 | .panic x=>RD (ev st G x)
 |op=>G1 st (qv P G st op)
def Fw (P:Program)(E:Env)(N:Nat)(r:SR)(st:AS)(k kp:AV→AS→Prop):Prop:=match r with
 | .val v st'=>k v st'
 | .cond c v st'=>c∧k v st'
 | .call g xs=>CallV P E N g xs st k kp
 | .pan x=>kp x st
 | .bad=>False
def GX (P:Program)(E:Env)(N:Nat)(r:SR)(st:AS)(k kp:AV→AS→Prop):Prop:=match r with
 | .val v st'=>k v st'
 | .cond c v st'=>c∧k v st'
 | .call g xs=>CallG P E N g xs st k kp
 | .pan x=>kp x st
 | .bad=>False
section
variable {P:Program} {E:Env} {N:Nat} {st:AS} {k kp:AV→AS→Prop}
theorem Bu {G:List (Nat×List Value)}{c:Call}(h1: ∀f,c.callee≠ .value f)(h2:c.callee≠ .builtin .append)(h3:c.callee≠ .builtin .clear):An P G st (.call c)=G1 st (qv P G st (.call c)):=by
 obtain⟨callee,args,ats⟩:=c
 cases callee with
 |value f=>exact absurd rfl (h1 f)
 |builtin b=>cases b<;>first |rfl |exact absurd rfl h2 |exact absurd rfl h3
 |invoke a b=>rfl
theorem Ho {x:Option AV}(h:Fw P E N (G1 st x) st k kp):F7 x (fun v=>k v st):=by
 cases x with
 |none=>exact h.elim
 |some v=>exact h
theorem Dk {x:Option (Prop×AV×AS)}(h:Fw P E N (K0 x) st k kp):B3 x k:=by
 cases x with
 |none=>exact h.elim
 |some v=>exact h
theorem Hn {op:Op}(h:Fw P E N (O6 P E.G st op (Cj P E.G st op)) st k kp):B3 (EJ P E.G st op) k:=by rw[Lz] at h;exact Dk h
theorem OO (op:Op)(h:Fw P E N (An P E.G st op) st k kp):J6 P E N st op k kp:=by
 cases op
 case call c=>
  obtain⟨callee,args,ats⟩:=c
  cases callee with
  |value f=>
   change Fw P E N (Pq (ev st E.G f) (Du st E.G args.toList)) st k kp at h;change HE (ev st E.G f) (Du st E.G args.toList) (fun g xs=>CallV P E N g xs st k kp)
   revert h
   generalize ev st E.G f=a;generalize Du st E.G args.toList=b;intro h;unfold Pq at h;split at h
   ·exact h
   ·exact h.elim
  |builtin b=>
   cases b
   case append=>exact Hn h
   case clear=>exact Dk h
   all_goals (rw[Bu (by simp) (by simp) (by simp)] at h;exact Ho h)
  |invoke a b=>rw[Bu (by simp) (by simp) (by simp)] at h;exact Ho h
 case panic x=>
  change Fw P E N (RD (ev st E.G x)) st k kp at h;change F7 (ev st E.G x) _
  revert h
  generalize ev st E.G x=a;intro h;unfold RD at h;split at h
  ·exact h
  ·exact h.elim
 case box=>exact Dk h
 case alloc=>exact Dk h
 case buildSlice=>exact Hn h
 case store=>exact Hn h
 case makeMap=>exact Dk h
 case mapUpdate=>exact Dk h
 case makeSlice=>exact Dk h
 all_goals first |exact(show False from h).elim |exact Ho (st:=st) (x:=qv P E.G st _) h
def UB:Op→Bool
 | .call {callee:= .value _,..}=>true
 | .box .. | .alloc _ | .buildSlice .. | .makeSlice .. | .makeMap .. =>true
 |op=>DG op
theorem Kp {x:Option AV}(h:GX P E N (G1 st x) st k kp):F7 x (fun v=>k v st):=by
 cases x with
 |none=>exact h.elim
 |some v=>exact h
theorem Em {x:Option (Prop×AV×AS)}(h:GX P E N (K0 x) st k kp):B3 x k:=by
 cases x with
 |none=>exact h.elim
 |some v=>exact h
theorem OS {op:Op}(h:GX P E N (O6 P E.G st op (Cj P E.G st op)) st k kp):B3 (EJ P E.G st op) k:=by rw[Lz] at h;exact Em h
theorem ON (op:Op)(hg:UB op=true)(h:GX P E N (An P E.G st op) st k kp):Dx P E N st op k kp:=by
 cases op
 case call c=>
  obtain⟨callee,args,ats⟩:=c
  cases callee with
  |value f=>
   change GX P E N (Pq (ev st E.G f) (Du st E.G args.toList)) st k kp at h;change HE (ev st E.G f) (Du st E.G args.toList) (fun g xs=>CallG P E N g xs st k kp)
   revert h
   generalize ev st E.G f=a;generalize Du st E.G args.toList=b;intro h;unfold Pq at h;split at h
   ·exact h
   ·exact h.elim
  |builtin b=>
   cases b
   case len=>rw[Bu (by simp) (by simp) (by simp)] at h;exact⟨rfl,Kp h⟩
   all_goals cases hg
  |invoke a b=>cases hg
 case panic x=>cases hg
 case store=>cases hg
 case select=>cases hg
 case box=>exact Em h
 case alloc=>exact Em h
 case buildSlice=>exact OS h
 case makeMap=>exact Em h
 case mapUpdate=>cases hg
 case makeSlice=>exact Em h
 all_goals first |exact(show False from h).elim |exact⟨rfl,Kp (st:=st) (x:=qv P E.G st _) h⟩
theorem NI {r:SR}{k' kp':AV→AS→Prop}(h:Fw P E N r st k kp)(hk: ∀v s,k v s→k' v s)(hp: ∀v s,kp v s→kp' v s):Fw P E N r st k' kp':=by
 cases r with
 |val v s=>exact hk _ _ h
 |cond c v s=>exact⟨h.1,hk _ _ h.2⟩
 |call g xs=>exact CallV.mono h hk hp
 |pan x=>exact hp _ _ h
 |bad=>exact h
theorem NH {r:SR}{k' kp':AV→AS→Prop}(h:GX P E N r st k kp)(hk: ∀v s,k v s→k' v s)(hp: ∀v s,kp v s→kp' v s):GX P E N r st k' kp':=by
 cases r with
 |val v s=>exact hk _ _ h
 |cond c v s=>exact⟨h.1,hk _ _ h.2⟩
 |call g xs=>exact CallT.mono h hk hp
 |pan x=>exact hp _ _ h
 |bad=>exact h
end
def ex (P:Program)(E:Env)(N:Nat)(ds:List (Option Nat))(kp:AV→AS→Prop):List Oper→AS→(AS→Prop)→Prop
 | [],st,K=>K st
 |o::rest,st,K=>match Gb ds st o.guard with
  | .yes=>Fw P E N (An P E.G st o.op) st (fun v st'=>ex P E N ds kp rest (st'.put o.dst v) K) kp
  | .no=>ex P E N ds kp rest (st.put o.dst (.r (.tuple #[]))) K
  | .bad=>False
  | .ask b w=>(b=w→Fw P E N (An P E.G st o.op) st (fun v st'=>ex P E N ds kp rest (st'.put o.dst v) K) kp)∧(b= !w→ex P E N ds kp rest (st.put o.dst (.r (.tuple #[]))) K)
def Iq (P:Program)(E:Env)(N:Nat)(ds:List (Option Nat))(kp:AV→AS→Prop)(tail:List Oper):List Oper→AS→(AS→Prop)→Prop
 | [],st,K=>ex P E N ds kp tail st K
 |o::rest,st,K=>match Gb ds st o.guard with
  | .yes=>GX P E N (An P E.G st o.op) st (fun v st'=>Iq P E N ds kp tail rest (st'.put o.dst v) K) kp
  | .no=>Iq P E N ds kp tail rest (st.put o.dst (.r (.tuple #[]))) K
  | .bad=>False
  | .ask b w=>(b=w→GX P E N (An P E.G st o.op) st (fun v st'=>Iq P E N ds kp tail rest (st'.put o.dst v) K) kp)∧(b= !w→Iq P E N ds kp tail rest (st.put o.dst (.r (.tuple #[]))) K)
section
variable {P:Program} {E:Env} {N:Nat} {ds:List (Option Nat)} {kp:AV→AS→Prop} {K:AS→Prop}
theorem Dc: ∀ {l:List Oper}{st:AS},ex P E N ds kp l st K→HK P E N ds kp l st K
 | [],st,h=>h
 |o::rest,st,h=>by
  unfold ex at h;unfold HK;have go:Fw P E N (An P E.G st o.op) st (fun v st'=>ex P E N ds kp rest (st'.put o.dst v) K) kp→J6 P E N st o.op (fun v st'=>HK P E N ds kp rest (st'.put o.dst v) K) kp:=
   fun h=>OO _ (NI h (fun _ _ h=>Dc h) (fun _ _ h=>h))
  split at h
  ·rename_i e;rw[e];exact go h
  ·rename_i e;rw[e];exact Dc h
  ·exact h.elim
  ·rename_i e;rw[e];exact⟨fun e=>go (h.1 e),fun e=>Dc (h.2 e)⟩
theorem G8 {tail:List Oper}: ∀ {l:List Oper}{st:AS},(l.all fun o=>UB o.op)=true→Iq P E N ds kp tail l st K→F2 P E N ds kp tail l st K
 | [],st,_,h=>Dc h
 |o::rest,st,hg,h=>by
  simp only[List.all_cons,Bool.and_eq_true] at hg;unfold Iq at h;unfold F2;have go:GX P E N (An P E.G st o.op) st (fun v st'=>Iq P E N ds kp tail rest (st'.put o.dst v) K) kp→Dx P E N st o.op (fun v st'=>F2 P E N ds kp tail rest (st'.put o.dst v) K) kp:=
   fun h=>ON _ hg.1 (NH h (fun _ _ h=>G8 hg.2 h) (fun _ _ h=>h))
  split at h
  ·rename_i e;rw[e];exact go h
  ·rename_i e;rw[e];exact G8 hg.2 h
  ·exact h.elim
  ·rename_i e;rw[e];exact⟨fun e=>go (h.1 e),fun e=>G8 hg.2 (h.2 e)⟩
end
section
variable (P:Program) (E:Env) (N:Nat) (ds:List (Option Nat)) (kp:AV→AS→Prop) (tail rest:List Oper) (st:AS) (K:AS→Prop)
def Oz (g:GV)(d:Option Nat)(op:Op):Prop:=match g with
 | .yes=>Fw P E N (An P E.G st op) st (fun v st'=>ex P E N ds kp rest (st'.put d v) K) kp
 | .no=>ex P E N ds kp rest (st.put d (.r (.tuple #[]))) K
 | .bad=>False
 | .ask b w=>(b=w→Fw P E N (An P E.G st op) st (fun v st'=>ex P E N ds kp rest (st'.put d v) K) kp)∧(b= !w→ex P E N ds kp rest (st.put d (.r (.tuple #[]))) K)
def Q9 (r:SR)(d:Option Nat):Prop:=Fw P E N r st (fun v st'=>ex P E N ds kp rest (st'.put d v) K) kp
def HB (g:Nat)(xs:List AV)(d:Option Nat):Prop:=CallV P E N g xs st (fun v st'=>ex P E N ds kp rest (st'.put d v) K) kp
def IC (g:GV)(d:Option Nat)(op:Op):Prop:=match g with
 | .yes=>GX P E N (An P E.G st op) st (fun v st'=>Iq P E N ds kp tail rest (st'.put d v) K) kp
 | .no=>Iq P E N ds kp tail rest (st.put d (.r (.tuple #[]))) K
 | .bad=>False
 | .ask b w=>(b=w→GX P E N (An P E.G st op) st (fun v st'=>Iq P E N ds kp tail rest (st'.put d v) K) kp)∧(b= !w→Iq P E N ds kp tail rest (st.put d (.r (.tuple #[]))) K)
def LE (r:SR)(d:Option Nat):Prop:=GX P E N r st (fun v st'=>Iq P E N ds kp tail rest (st'.put d v) K) kp
def Tl (g:Nat)(xs:List AV)(d:Option Nat):Prop:=CallG P E N g xs st (fun v st'=>Iq P E N ds kp tail rest (st'.put d v) K) kp
@[go_sem] theorem Ur:ex P E N ds kp [] st K=K st:=rfl
@[go_sem] theorem UR (d:Option Nat) (op:Op) (t:TypeId) (p:String) (af:Array Edge) (g:Option (Nat×Bool)):ex P E N ds kp (⟨d,op,t,p,af,g⟩::rest) st K=Oz P E N ds kp rest st K (Gb ds st g) d op:=rfl
@[go_sem] theorem UJ (d:Option Nat) (op:Op):Oz P E N ds kp rest st K .yes d op=Q9 P E N ds kp rest st K (An P E.G st op) d:=rfl
@[go_sem] theorem Uo (d:Option Nat) (op:Op):Oz P E N ds kp rest st K .no d op=ex P E N ds kp rest (st.put d (.r (.tuple #[]))) K:=rfl
@[go_sem] theorem Um (d:Option Nat) (op:Op):Oz P E N ds kp rest st K (.ask true true) d op=Q9 P E N ds kp rest st K (An P E.G st op) d:=by simp[Oz,Q9]
@[go_sem] theorem Uq (d:Option Nat) (op:Op):Oz P E N ds kp rest st K (.ask false false) d op=Q9 P E N ds kp rest st K (An P E.G st op) d:=by simp[Oz,Q9]
@[go_sem] theorem Un (d:Option Nat) (op:Op):Oz P E N ds kp rest st K (.ask true false) d op=ex P E N ds kp rest (st.put d (.r (.tuple #[]))) K:=by simp[Oz]
@[go_sem] theorem Up (d:Option Nat) (op:Op):Oz P E N ds kp rest st K (.ask false true) d op=ex P E N ds kp rest (st.put d (.r (.tuple #[]))) K:=by simp[Oz]
@[go_sem] theorem UH (d:Option Nat) (v:AV) (s:AS):Q9 P E N ds kp rest st K (.val v s) d=ex P E N ds kp rest (s.put d v) K:=rfl
@[go_sem] theorem TU (d:Option Nat) (c:Prop) (v:AV) (s:AS):Q9 P E N ds kp rest st K (.cond c v s) d=(c∧ex P E N ds kp rest (s.put d v) K):=rfl
@[go_sem] theorem TV (d:Option Nat) (g:Nat) (xs:List AV):Q9 P E N ds kp rest st K (.call g xs) d=HB P E N ds kp rest st K g xs d:=rfl
@[go_sem] theorem UI (d:Option Nat) (x:AV):Q9 P E N ds kp rest st K (.pan x) d=kp x st:=rfl
@[go_sem] theorem UU:Iq P E N ds kp tail [] st K=ex P E N ds kp tail st K:=rfl
@[go_sem] theorem Td (d:Option Nat) (op:Op) (t:TypeId) (p:String) (af:Array Edge) (g:Option (Nat×Bool)):Iq P E N ds kp tail (⟨d,op,t,p,af,g⟩::rest) st K=IC P E N ds kp tail rest st K (Gb ds st g) d op:=rfl
@[go_sem] theorem TZ (d:Option Nat) (op:Op):IC P E N ds kp tail rest st K .yes d op=LE P E N ds kp tail rest st K (An P E.G st op) d:=rfl
@[go_sem] theorem UN (d:Option Nat) (op:Op):IC P E N ds kp tail rest st K .no d op=Iq P E N ds kp tail rest (st.put d (.r (.tuple #[]))) K:=rfl
@[go_sem] theorem UL (d:Option Nat) (op:Op):IC P E N ds kp tail rest st K (.ask true true) d op=LE P E N ds kp tail rest st K (An P E.G st op) d:=by simp[IC,LE]
@[go_sem] theorem UP (d:Option Nat) (op:Op):IC P E N ds kp tail rest st K (.ask false false) d op=LE P E N ds kp tail rest st K (An P E.G st op) d:=by simp[IC,LE]
@[go_sem] theorem UM (d:Option Nat) (op:Op):IC P E N ds kp tail rest st K (.ask true false) d op=Iq P E N ds kp tail rest (st.put d (.r (.tuple #[]))) K:=by simp[IC]
@[go_sem] theorem UO (d:Option Nat) (op:Op):IC P E N ds kp tail rest st K (.ask false true) d op=Iq P E N ds kp tail rest (st.put d (.r (.tuple #[]))) K:=by simp[IC]
@[go_sem] theorem TW (d:Option Nat) (v:AV) (s:AS):LE P E N ds kp tail rest st K (.val v s) d=Iq P E N ds kp tail rest (s.put d v) K:=rfl
@[go_sem] theorem SG (d:Option Nat) (c:Prop) (v:AV) (s:AS):LE P E N ds kp tail rest st K (.cond c v s) d=(c∧Iq P E N ds kp tail rest (s.put d v) K):=rfl
@[go_sem] theorem SH (d:Option Nat) (g:Nat) (xs:List AV):LE P E N ds kp tail rest st K (.call g xs) d=Tl P E N ds kp tail rest st K g xs d:=rfl
end
section
variable (P:Program) (G:List (Nat×List Value)) (st:AS)
@[go_sem] theorem Rw (x:Operand):An P G st (.move x)=G1 st (ev st G x):=rfl
@[go_sem] theorem QY (x:Operand):An P G st (.assign x)=G1 st (ev st G x):=rfl
def Qb:Option AV→Option AV→Option AV→Option AV
 |some (.r (.bool c)),some a,some b=>some (Jx c a b)
 |_,_,_=>none
@[go_sem] theorem Rv (c a b:Operand):An P G st (.pick c a b)=G1 st (Qb (ev st G c) (ev st G a) (ev st G b)):=rfl
def Qc:Option TY→Option AV→Option AV
 |some y,some x=>match FQ st x with
  |some (c,off)=>Gx y c off
  |none=>none
 |_,_=>none
@[go_sem] theorem Rx (T:TypeId) (x:Operand):An P G st (.load T x)=G1 st (Qc st (AT P T) (ev st G x)):=rfl
def St:Option AV→Option AV
 |some (.re t c off)=>some (.re t c off)
 |some (.p n i off)=>some (.p n i off)
 |some (.fn f c)=>some (.fn f c)
 |_=>none
@[go_sem] theorem PV (x:Operand):An P G st (.nilCheck x)=G1 st (St (ev st G x)):=rfl
def Rh (op:BinOp)(T:TypeId)(nl:Bool)(t:Option TY)(a b:Option AV):Option AV:=match nl with
 |true=>(match t,a with
  |some ty,some (.r v)=>Nh op ty v
  |_,_=>none)
 |false=>(match t,a,b with
  |some _,some (.agg a),some (.agg b)=>SJ P op T a b
  |some ty,some a,some b=>O2 op ty a b
  |_,_,_=>none)
def Qk (op:BinOp)(T:TypeId):Option TY→Option AV→Option AV→Option AV
 |some _,some (.agg a),some (.agg b)=>SJ P op T a b
 |some ty,some a,some b=>O2 op ty a b
 |_,_,_=>none
def To (op:BinOp):Option TY→Option AV→Option AV
 |some ty,some (.r v)=>Nh op ty v
 |_,_=>none
@[go_sem] theorem Uu (op:BinOp) (T:TypeId) (t:Option TY) (a b:Option AV):Rh P op T false t a b=Qk P op T t a b:=rfl
@[go_sem] theorem Ut (op:BinOp) (T:TypeId) (t:Option TY) (a b:Option AV):Rh P op T true t a b=To op t a:=rfl
@[go_sem] theorem S1 (t:Nat):E1 (.tmp t)=false:=rfl
@[go_sem] theorem Q0 (t:Nat):E1 (.global t)=false:=rfl
@[go_sem] theorem RL (t:Nat):E1 (.func t)=false:=rfl
@[go_sem] theorem S4:E1 (.const .nilIface)=true:=rfl
@[go_sem] theorem S6 (k:IntKind) (n:Int):E1 (.const (.int k n))=false:=rfl
@[go_sem] theorem RN (b:Bool):E1 (.const (.bool b))=false:=rfl
@[go_sem] theorem S2 (b:ByteArray):E1 (.const (.string b))=false:=rfl
@[go_sem] theorem Qe (a:Option Addr) (n m:Nat):E1 (.const (.slice a n m))=false:=rfl
@[go_sem] theorem S3 (a:Option Addr):E1 (.const (.pointer a))=false:=rfl
@[go_sem] theorem S5 (a:Option Nat):E1 (.const (.map a))=false:=rfl
@[go_sem] theorem Sg (op:BinOp) (T T':TypeId) (x y:Operand):An P G st (.binOp op T x y T')=G1 st (Rh P op T (E1 y) (AT P T) (ev st G x) (ev st G y)):=rfl
def Ux (op:UnOp):Option AV→Option AV
 |some a=>S_ op a
 |none=>none
@[go_sem] theorem Tz (op:UnOp) (T:TypeId) (x:Operand):An P G st (.unOp op T x)=G1 st (Ux op (ev st G x)):=rfl
def VT:Option TY→Option TY→Option AV→Option AV
 |some s,some d,some x=>Th P st s d x
 |_,_,_=>none
@[go_sem] theorem Pd (s d:TypeId) (x:Operand):An P G st (.convert s d x)=G1 st (VT P st (AT P s) (AT P d) (ev st G x)):=rfl
def VG:Option TY→Option AV→Option (Option AV)→Option (Option AV)→Option AV
 |some y,some x,some lo,some hi=>R3 P st y lo hi x
 |_,_,_,_=>none
@[go_sem] theorem Qv (T:TypeId) (x:Operand) (lo hi:Option Operand):An P G st (.slice T x lo hi none)=G1 st (VG P st (AT P T) (ev st G x) (Cu st G lo) (Cu st G hi)):=rfl
def Si:Option TY→Option AV→Option (Option AV)→Option AV→Option AV→Option AV
 |some y,some x,some lo,some hi,some m=>OQ P st y lo hi m x
 |_,_,_,_,_=>none
@[go_sem] theorem QW (T:TypeId) (x:Operand) (lo:Option Operand) (hi m:Operand):An P G st (.slice T x lo (some hi) (some m))=G1 st (Si P st (AT P T) (ev st G x) (Cu st G lo) (ev st G hi) (ev st G m)):=rfl
def Tk:Option (List AV)→Option TypeId→Option AV
 |some [x],some T=>match AT P T with
  |some y=>PG x y.k
  |none=>none
 |_,_=>none
@[go_sem] theorem Sc (args:Array Operand) (ats:Array TypeId):An P G st (.call {callee:= .builtin .max,args:=args,argTypes:=ats})=G1 st (Oj (Du st G args.toList)):=rfl
@[go_sem] theorem Se (args:Array Operand) (ats:Array TypeId):An P G st (.call {callee:= .builtin .cap,args:=args,argTypes:=ats})=G1 st (Tk P (Du st G args.toList) ats[0]?):=rfl
def VN (f:Nat):Option TY→Option AV→Option AV
 |some ⟨.struct fs,_,_,_⟩,some x=>match fs[f]? with
  |some (off,sz)=>if sz=0 then none else GZ off x
  |none=>none
 |_,_=>none
@[go_sem] theorem OM (T:TypeId) (x:Operand) (f:Nat):An P G st (.fieldAddr T x f)=G1 st (VN f (AT P T) (ev st G x)):=rfl
def VJ:Option TY→Option AV→Option AV→Option AV
 |some y,some x,some (.r (.int _ i))=>T6 st P y i x
 |_,_,_=>none
@[go_sem] theorem OL (T:TypeId) (x i:Operand):An P G st (.indexAddr T x i)=G1 st (VJ P st (AT P T) (ev st G x) (ev st G i)):=rfl
def VH:Option TY→Option AV→Option AV→Option AV
 |some y,some x,some (.r (.int _ i))=>T5 P y i x
 |_,_,_=>none
@[go_sem] theorem Qx (T:TypeId) (x i:Operand):An P G st (.index T x i)=G1 st (VH P (AT P T) (ev st G x) (ev st G i)):=rfl
def VO (i:Nat):Option AV→Option AV
 |some (.tup c)=>c[i]?
 |_=>none
@[go_sem] theorem Pc (t:Operand) (i:Nat):An P G st (.extract t i)=G1 st (VO i (ev st G t)):=rfl
def T1:Option (List AV)→Option TypeId→Option AV
 |some [x],some T=>match AT P T with
  |some y=>Oq st x y.k
  |none=>none
 |_,_=>none
def PJ:Option TY→Option (List (Nat×AV))→Option AV
 |some ⟨.struct fs,_,_,some z⟩,some l=>(G6 (fs[·]?) (z.map .r) l).map .agg
 |some ⟨.arr _ e,_,_,some z⟩,some l=>match AT P e with
  |some ye=>(G6 (fun i=>some (i * ye.size,ye.size)) (z.map .r) l).map .agg
  |none=>none
 |_,_=>none
@[go_sem] theorem Qz (T:TypeId) (ps:Array (Nat×Operand)):An P G st (.build T ps)=G1 st (PJ P (AT P T) (EY st G ps.toList)):=rfl
def TH (T:TypeId):Option TY→Option AV→Option AV
 |some ⟨.ifc,_,_,_⟩,_=>none
 |some _,some x=>some (.ifc T x)
 |_,_=>none
@[go_sem] theorem Lo (T:TypeId) (x:Operand):An P G st (.makeInterface T x)=G1 st (TH T (AT P T) (ev st G x)):=rfl
@[go_sem] theorem Sd (args:Array Operand) (ats:Array TypeId):An P G st (.call {callee:= .builtin .len,args:=args,argTypes:=ats})=G1 st (T1 P st (Du st G args.toList) ats[0]?):=rfl
@[go_sem] theorem Qt (f:Operand) (args:Array Operand) (ats:Array TypeId):An P G st (.call {callee:= .value f,args:=args,argTypes:=ats})=Pq (ev st G f) (Du st G args.toList):=rfl
@[go_sem] theorem QZ (args:Array Operand) (ats:Array TypeId):An P G st (.call {callee:= .builtin .append,args:=args,argTypes:=ats})=O6 P G st (.call {callee:= .builtin .append,args:=args,argTypes:=ats}) (Cj P G st (.call {callee:= .builtin .append,args:=args,argTypes:=ats})):=rfl
@[go_sem] theorem Qy (args:Array Operand) (ats:Array TypeId):An P G st (.call {callee:= .builtin .clear,args:=args,argTypes:=ats})=K0 (Cj P G st (.call {callee:= .builtin .clear,args:=args,argTypes:=ats})):=rfl
@[go_sem] theorem Sf (T:TypeId) (x:Operand):An P G st (.box T x)=K0 (Cj P G st (.box T x)):=rfl
@[go_sem] theorem R0 (T:TypeId):An P G st (.alloc T)=K0 (Cj P G st (.alloc T)):=rfl
@[go_sem] theorem Qu (T:TypeId) (x v:Operand):An P G st (.store T x v)=O6 P G st (.store T x v) (Cj P G st (.store T x v)):=rfl
@[go_sem] theorem Pb (T:TypeId) (r:Option Operand):An P G st (.makeMap T r)=K0 (E6 P G st (.makeMap T r)):=rfl
@[go_sem] theorem OJ (T:TypeId) (m i v:Operand):An P G st (.mapUpdate T m i v)=K0 (E6 P G st (.mapUpdate T m i v)):=rfl
@[go_sem] theorem QX (T:TypeId) (x i:Operand):An P G st (.lookup T x i true)=G1 st (L6 P st (AT P T) (ev st G x) (ev st G i)):=rfl
@[go_sem] theorem O5 (T:TypeId) (n:Nat) (ps:Array (Nat×Operand)):An P G st (.buildSlice T n ps)=O6 P G st (.buildSlice T n ps) (Cj P G st (.buildSlice T n ps)):=rfl
@[go_sem] theorem Sq (op:Op) (c:Prop) (v:AV) (s:AS):O6 P G st op (some (c,v,s))= .cond c v s:=rfl
@[go_sem] theorem Sr (op:Op):O6 P G st op none=K0 (E6 P G st op):=rfl
@[go_sem] theorem OK (T:TypeId) (l c:Operand):An P G st (.makeSlice T l c)=K0 (Cj P G st (.makeSlice T l c)):=rfl
@[go_sem] theorem Qw (x:Operand):An P G st (.panic x)=RD (ev st G x):=rfl
attribute [go_sem] GM ren renL A9 Jl Si OQ Tk PG PJ TH SJ KB RZ UV Qb Qc St Qk To Nh Ux VT VG VN VJ VH VO T1 G1 K0 Pq RD Cj Gb ev Du lk AS.put C2 BO O2 T7 U1 Q7 OH FQ Gx GZ T6 T5 Oq LA Jx Ii TK.agg S_ Cu Ci AV.okPart AV.cells AV.cell1 splice GE GL IE rm Iv G6 EY QU R3 Th Pr Oj RG E6 Ll MW Rn RF L6 Ol Sx RC unU EC Fl ID Fk Da Qa LM R4 PK R1 Rz Hp RJ Tg FS Id
end
section
variable {P:Program} {E:Env} {N:Nat} {st:AS} {AQ:AExit→AS→Prop}
theorem Ri {id:Nat}{ops:Array Oper}{ds:List (Option Nat)}{l:List Oper}(hd:E2 N ops=true)(hds:Cz ops=ds)(hl:ops.toList=l)
  (h: ∀(K:AS→Prop)(kp:AV→AS→Prop),(∀st',AQ .normal st'→K st')→(∀x st',AQ (.pan x) st'→kp x st')→ex P E N ds kp l st K):AWP P E N (.region id ops false) st AQ:=
 MZ hd hds hl (Dc (h _ _ (fun _ h=>h) (fun _ _ h=>h)))
theorem Rl {id:Nat}{ops:Array Oper}{ds:List (Option Nat)}{l l':List Oper}(hm:P.follows .mixedOrders=true)(n:Nat)(ord:List Nat)(hB:Fi ops n ord=true)(hd:E2 N ops=true)(hg:((D2 ops ord).all fun o=>UB o.op)=true)
  (hds:Cz ops=ds) (ht:ops.toList.drop n=l') (hh:D2 ops ord=l) (h: ∀(K:AS→Prop)(kp:AV→AS→Prop),(∀st',AQ .normal st'→K st')→(∀x st',AQ (.pan x) st'→kp x st')→Iq P E N ds kp l' l st K):AWP P E N (.region id ops true) st AQ:=
 PL hm n ord hB hd hds ht hh (G8 (by rw[←hh];exact hg) (h _ _ (fun _ h=>h) (fun _ _ h=>h)))
variable {ds:List (Option Nat)} {kp:AV→AS→Prop} {tail rest:List Oper} {K:AS→Prop} {d:Option Nat}
theorem PH {f:Nat}{xs ys:List AV}{res res':AV}{os:List (Nat×Nd)}{m:Nat}{st':AS}(hc:Con P E.G f ys [] 0 (Is res os m) No)(hb:D7 st xs=some ys)(hp:PT res)(hp': ∀p ∈ os,E8 p.2)(hr:ren (· +st.n) res=res')(hs:{st with o:=Jl st.n os++st.o,n:=st.n+m}=st')
  (hk:ex P E N ds kp rest (st'.put d res') K):HB P E N ds kp rest st K f xs d:=
 (Ig hc hb hp hp' (by subst hr hs;exact hk)).v
theorem Nz (σ:List Nat){f:Nat}{xs ys:List AV}{oc os:List (Nat×Nd)}{res res':AV}{m:Nat}{st':AS}(hc:Con P E.G f ys oc σ.length (Is res os m) No)(hb:Dt σ st xs=some ys)(ho:AH σ st.o oc)(hall: ∀i,i<σ.length→ ∃nd,lk oc i=some nd)
  (hlt: ∀i ∈ σ,i<st.n) (hnd:σ.Nodup) (hbig:st.n≤1000000000) (hp:PT res) (hp': ∀p ∈ os,E8 p.2) (hr:ren (fw σ st.n) res=res') (hs:{st with o:=Cx (fw σ st.n) os++Gw σ st.o,n:=st.n+(m - σ.length)}=st') (hk:ex P E N ds kp rest (st'.put d res') K):HB P E N ds kp rest st K f xs d:=
 (Ea hc hb ho hall hlt hnd hbig (fun y o n ⟨h1,h2,h3⟩=>by subst h1 h2 h3 hr hs;exact⟨hp,hp',hk⟩) (fun _ _ _ h=>h.elim)).v
theorem Tr {id:Nat}{ops:Array Oper}(hd:E2 N ops=true)(h: ∀(K:AS→Prop)(kp:AV→AS→Prop),(∀st',AQ .normal st'→K st')→(∀x st',AQ (.pan x) st'→kp x st')→ex P E N (Cz ops) kp ops.toList st K):AWP P E N (.region id ops false) st AQ:=
 Ri hd rfl rfl h
theorem QQ {f:Nat}{xs ys:List AV}{res:AV}{os:List (Nat×Nd)}{m:Nat}(hc:Con P E.G f ys [] 0 (Is res os m) No)(hb:D7 st xs=some ys)(hp:PT res)(hq: ∀p ∈ os,E8 p.2)
 (hk:ex P E N ds kp rest ({st with o:=Jl st.n os++st.o,n:=st.n+m}.put d (ren (· +st.n) res)) K):HB P E N ds kp rest st K f xs d:=PH hc hb hp hq rfl rfl hk
@[go_sem] theorem Ue {h:Nat} {k:IntKind} {l:Int} (h1:0≤l) (h2:l≤h):Qd h (some (.r (.int k l)))=some l.toNat:=by simp[Qd,h1,h2]
@[go_sem] theorem Uk {len:Nat} {k:IntKind} {h:Int} (h1:0≤h) (h2:h≤len):Qg len (some (.r (.int k h)))=some h.toNat:=by simp[Qg,h1,h2]
@[go_sem] theorem Sw (h:Nat):Qd h none=some 0:=rfl
@[go_sem] theorem TI (h:Nat):Qg h none=some h:=rfl
@[go_sem] theorem P_ {α β:Type} (f:α→β) (l:List α):List.take l.length (l.map f)=l.map f:=List.take_of_length_le (by simp)
@[go_sem] theorem Ug {α:Type} {a b:Nat} {x y:α} (h:a≤b):(if a≤b then x else y)=x:=if_pos h
theorem Ub (v:Value):PT (.r v)=True:=eq_true (.r v)
theorem Ua (n lo len:Nat):PT (.s n lo len)=True:=eq_true (.s n lo len)
theorem Sm (k:Nat)(els:List (List AV)):PT (.ro true k els)= ∀e ∈ els,∀x ∈ e,PT x:=propext ⟨fun h=>by cases h;assumption,.ro k els⟩
theorem R6 (c:List AV):PT (.tup c)= ∀x ∈ c,PT x:=propext ⟨fun h=>by cases h;assumption,.tup c⟩
theorem R7 (c:List AV):PT (.agg c)= ∀x ∈ c,PT x:=propext ⟨fun h=>by cases h;assumption,.agg c⟩
theorem Lt {rs:List ResultVar}{Q R:AV→List (Nat×Nd)→Nat→Prop}{l:List AV}{y:AV}{o:List (Nat×Nd)}{n:Nat}(hl:Iw P st rs=some l)(hq:Q y o n)(he:Io E N st (AI l) o n y):BS P E N rs Q R .ret st:=by
 simp only[BS,hl];exact⟨y,o,n,hq,he⟩
theorem AB {rs:List ResultVar}{R:AV→List (Nat×Nd)→Nat→Prop}{l:List AV}{y:AV}{o:List (Nat×Nd)}{n:Nat}(hl:Iw P st rs=some l)(he:Io E N st (AI l) o n y):BS P E N rs (Is y o n) R .ret st:=Lt hl ⟨rfl,rfl,rfl⟩ he
theorem Con.args {G:List (Nat×List Value)}{f:Nat}{xs xs':List AV}{o:List (Nat×Nd)}{n:Nat}{Q R:AV→List (Nat×Nd)→Nat→Prop}(hc:Con P G f xs' o n Q R)(h: ∀w z th vs,Reps w z th xs vs→Reps w z th xs' vs):Con P G f xs o n Q R:=
 ⟨hc.1,fun w th z own vs ho hm hr=>hc.2 w th z own vs ho hm (h _ _ _ _ hr)⟩
theorem RE {w:World}{z:Ag}{th:List NLoc}(t:Bool)(k:Nat){v:Value}(h:Rep w z th (.r (.slice none 0 0)) v):Rep w z th (.ro t k []) v:=by
 rw[show v= .slice none 0 0 from h.r_inv];exact .nil _ _ _ _ _
theorem M8 {f:Nat}{G:List (Nat×List Value)}{xs:List AV}{v:Value}(hc:Con P G f xs [] 0 (Is (.r v) [] 0) No)(w:World)(vs:List Value)(hr:Reps w (fun _ b=>b<w.heap.size) [] xs vs)
  (hG: ∀g cs,(g,cs) ∈ G→g<w.heap.size∧ ∀(j:Nat) u,cs[j]?=some u→w.cell? ⟨g,j,none⟩=some u):Calls P f vs.toArray w (fun e w'=>e= .returned v∧Go.RowKit.Below w.heap.size w w'):=by
 have hm:Mem ⟨w,fun _=>False,fun _ b=>b<w.heap.size,G,[],[]⟩ [] 0 [] (fun _ b=>b<w.heap.size) w:=
  ⟨rfl,fun i nd hi=>by simp[lk] at hi,fun i j x y L M hi=>by simp[lk] at hi,fun _ _ h=>h,Nat.le_refl _,fun _ _ _=>rfl,fun _ _ h=>h,fun b h=> .inl h,fun b h=>h,hG,fun i L hi=>by simp at hi,Sys.refl w,⟨fun _ _=>False,fun i T k els op L hi=>by simp[lk] at hi,fun _ _ h=>h.elim,fun _ _ h=>h.elim,fun _ _ h=>h.elim,fun _ _ _ h=>h.elim,fun i nd L j hi=>by simp[lk] at hi⟩⟩
 refine(hc.2 w [] _ (fun _=>False) vs (fun b=>by simp[lk]) hm hr).mono ?_;rintro e w' ⟨u,y,o',n',th',z',hh,hm',hv⟩
 rcases hh with ⟨rfl,rfl,rfl,rfl⟩ |⟨_,h⟩
 ·have:=hv.r_inv;subst this
  exact⟨rfl,hm'.sys.1,hm'.sys.2.1,hm'.sys.2.2,hm'.grow,fun k hk=>hm'.frame k hk (fun h=>h)⟩
 ·exact h.elim
end
class PTf {α:Type} (f:α→List AV):Prop where
 pt: ∀a,∀x ∈ f a,PT x
theorem Lu {α:Type}(f:α→List AV)[h:PTf f](l:List α): ∀e ∈ l.map f,∀x ∈ e,PT x:=by
 intro e he x hx;obtain⟨a,_,rfl⟩:=List.mem_map.1 he;exact h.pt a x hx
attribute [simp] Ub Ua Sm R6 R7 E8
attribute [go_sem] SO Cz D7 Eg Fr Iw U2 List.append_eq List.toList_toArray D2 List.filterMap_cons List.filterMap_nil
attribute [go_sem] Nat.le_refl Int.le_refl Int.cast_ofNat_Int Int.toNat_zero and_self and_true true_and true_imp_iff false_imp_iff implies_true Bool.not_true Bool.not_false cond_true cond_false decide_true decide_false beq_self_eq_true Option.map_some Option.map_none Option.bind_some List.getElem?_map List.getElem?_cons_zero List.getElem?_cons_succ List.length_cons List.length_nil List.length_map List.length_append Int.toNat_natCast Int.natCast_nonneg List.getElem?_toArray List.map_cons List.map_nil List.all_cons List.all_nil Bool.and_self Bool.or_false Bool.or_true Bool.false_or Bool.true_or Bool.and_false Bool.false_and Bool.and_true Bool.true_and List.nil_append List.cons_append List.append_nil List.drop_nil List.take_nil Nat.zero_add Nat.add_zero Nat.sub_zero List.drop_zero List.take_succ_cons List.take_zero List.drop_succ_cons
attribute [go_sem ↓] reduceIte
attribute [go_sem] Int.reduceToNat Int.reduceLE Int.reduceLT Int.reduceGT Int.reduceGE Int.reduceAdd Int.reduceSub Int.reduceMul Int.reduceNeg Int.reduceBEq Int.reduceBNe Int.reduceEq Int.reduceNe reduceCtorEq Nat.reduceEqDiff Nat.reduceAdd Nat.reduceSub Nat.reduceMul Nat.reduceLT Nat.reduceLeDiff
end Go.AM
namespace Go.AM
open Go
structure ExtX (X:Nat→Prop)(w w':World):Prop where
 size:w.heap.size≤w'.heap.size
 same: ∀b,b<w.heap.size→ ¬X b→w'.heap[b]?=w.heap[b]?
 sys:Sys w w'
theorem ExtX.refl (X:Nat→Prop)(w:World):ExtX X w w:=⟨Nat.le_refl _,fun _ _ _=>rfl,Sys.refl w⟩
theorem ExtX.trans {X:Nat→Prop}{a b c:World}(h:ExtX X a b)(h':ExtX X b c):ExtX X a c:=⟨Nat.le_trans h.size h'.size,fun x hx hn=>(h'.same x (Nat.lt_of_lt_of_le hx h.size) hn).trans (h.same x hx hn),h.sys.trans h'.sys⟩
section
variable {P:Program} {ops:Array Oper} {Q:Exit→Act→World→Prop} {n:Nat} {L:Array Bool→Act→World→Prop} {X:Nat→Prop}
def O3 (P:Program)(ops:Array Oper)(Q:Exit→Act→World→Prop)(n:Nat)(X:Nat→Prop)(L:Array Bool→Act→World→Prop):Nat→Array Bool→Act→World→Prop
 |0,s,a,w=>L s a w
 |f+1,s,a,w=>Region.ready .any ops s≠[]∧ ∀i ∈ Region.ready .any ops s,i<n∧wpOp P ops Q i (fun a' w'=>ExtX X w w'∧O3 P ops Q n X L f (s.setIfInBounds i true) a' w') a w
theorem LU {g:Nat}(hL: ∀s a w,L s a w→wpAny P .any ops Q g s a w): ∀(f:Nat)(s:Array Bool)(a:Act)(w:World),O3 P ops Q n X L f s a w→wpAny P .any ops Q (f+g) s a w
 |0,s,a,w,h=>by rw[Nat.zero_add];exact hL _ _ _ h
 |f+1,s,a,w,h=>by
  rw[show f+1+g=(f+g)+1 by omega];exact⟨fun h0=>absurd h0 h.1,fun i hi=>wpOp_mono (fun a' w' h'=>LU hL f _ a' w' h'.2) (h.2 i hi).2⟩
theorem KU {oi:Oper}{v:Value}{a:Act}{w w':World}(h:YieldsIf P ops (ExtX X w) oi v a)(e:ExtX X w w'):YieldsIf P ops (ExtX X w') oi v a:=
 h.imp (fun⟨h1,h2⟩=>⟨h1,fun x hx=>h2 x (e.trans hx)⟩) id
theorem Ik {i:Nat}{oi:Oper}{v:Value}(hi:ops[i]?=some oi)(hsel: ∀(j:Nat)(o:Oper) cs b,ops[j]?=some o→o.op≠ .select cs b)
  (hQ: ∀c a w,Q (.panic c) (a.put oi.dst v) w→Q (.panic c) a w) (hlt: ∀s,HeadInv .any ops n s→ ∀i,i<n→s.getD i true=false→ ∀j ∈ Region.ready .any ops s,j<n) (hin:i<n)
  (hdone: ∀s a w,L s a w→ ∀j ∈ Region.ready .any ops s,n≤j): ∀(f:Nat)(s:Array Bool)(a:Act)(w:World),HeadInv .any ops n s→
   (∀j oj,ops[j]?=some oj→j≠i→s.getD j true=false→(∀e ∈ oj.after,Region.binds .any e=true→e.on≠i)→oi.apart ops oj=true)→
   i ∈ Region.ready .any ops s→YieldsIf P ops (ExtX X w) oi v a→O3 P ops Q n X L f (s.setIfInBounds i true) (a.put oi.dst v) w→O3 P ops Q n X L (f+1) s a w:=by
 intro f
 induction f with
 |zero=>
  intro s a w inv _ hr hy H;refine⟨fun h=>(by rw[h] at hr;cases hr),fun j hj=>?_⟩;have hjn:j<n:=hlt s inv i hin (mem_ready.1 hr).1 j hj
  by_cases hji:j=i
  ·subst hji;exact⟨hjn,hy.wpOp hi (ExtX.refl X w) ⟨ExtX.refl X w,H⟩⟩
  ·have:=hdone _ _ _ H j (ready_mono hj hji)
   omega
 |succ f ih=>
  intro s a w inv hfree hr hy H;refine⟨fun h=>(by rw[h] at hr;cases hr),fun j hj=>?_⟩;have hjn:j<n:=hlt s inv i hin (mem_ready.1 hr).1 j hj;refine⟨hjn,?_⟩
  by_cases hji:j=i
  ·subst hji;exact hy.wpOp hi (ExtX.refl X w) ⟨ExtX.refl X w,H⟩
  ·have h1:=(H.2 j (ready_mono hj hji)).2
   obtain⟨hjun,oj,hoj,hall⟩:=mem_ready.1 hj;have hiun:=(mem_ready.1 hr).1
   have hnot: ∀e ∈ oj.after,Region.binds .any e=true→e.on≠i:=fun e he hb heq=>by
    have h2:=hall e he hb;rw[heq,getD_both hiun] at h2;cases h2
   have h2:=wpOp_putIf hoj (hfree j oj hoj hji hjun hnot) (fun cs b=>hsel i oi cs b hi) (fun cs b=>hsel j oj cs b hoj) hQ hy h1;refine wpOp_mono (fun a' w' h3=>⟨h3.2.1,ih _ a' w' (inv.set hj hjn) (fun k ok hk hki hun hno=>hfree k ok hk hki ?_ hno) (ready_mono hr (Ne.symm hji)) (KU h3.1 h3.2.1) ?_⟩) h2
   ·by_cases hjk:j=k
    ·subst hjk;exact hjun
    ·rwa [getD_set_ne true hjk] at hun
   ·rw[Array.setIfInBounds_comm _ _ hji]
    exact h3.2.2
end
def hid (ws:List Nat)(st:AS):AS:={st with o:=Gw ws st.o}
def OY (ws:List Nat)(st:AS):Bool:=ws.all fun i=>(lk st.o i).isSome
def J5 (ws ts:List Nat):Bool:=ts.all fun t=>ws.contains t
def GW (P:Program)(E:Env)(N:Nat)(ws ts:List Nat)(r:SR)(st:AS)(k kp:AV→AS→Prop):Prop:=match r with
 | .cond c v st'=>(J5 ws ts=true∧c)∧k v st'
 | .call g xs=> ∃ts,(∀t ∈ ts,t ∈ ws)∧CallT P E N g xs st ts k kp
 |_=>False
def Jp (r:SR)(st:AS)(k:AV→AS→Prop):Prop:=match r with
 | .val v _=>k v st
 |_=>False
def FY (P:Program)(E:Env)(N:Nat)(ws:List Nat)(ds:List (Option Nat))(kp:AV→AS→Prop)(tail:List Oper):List Oper→AS→(AS→Prop)→Prop
 | [],st,K=>ex P E N ds kp tail st K
 |o::rest,st,K=>match Gb ds st o.guard with
  | .yes=>match DG o.op with
    |true=>OY ws st=true∧Jp (An P E.G (hid ws st) o.op) st (fun v st'=>FY P E N ws ds kp tail rest (st'.put o.dst v) K)
    |false=>GW P E N ws (EN st E.G o.op) (An P E.G st o.op) st (fun v st'=>FY P E N ws ds kp tail rest (st'.put o.dst v) K) kp
  | .no=>FY P E N ws ds kp tail rest (st.put o.dst (.r (.tuple #[]))) K
  | .bad=>False
  | .ask b w=>(b=w→match DG o.op with
    |true=>OY ws st=true∧Jp (An P E.G (hid ws st) o.op) st (fun v st'=>FY P E N ws ds kp tail rest (st'.put o.dst v) K)
    |false=>GW P E N ws (EN st E.G o.op) (An P E.G st o.op) st (fun v st'=>FY P E N ws ds kp tail rest (st'.put o.dst v) K) kp)∧(b= !w→FY P E N ws ds kp tail rest (st.put o.dst (.r (.tuple #[]))) K)
section
variable {P:Program} {E:Env} {N:Nat} {st:AS} {th:List NLoc} {z:Ag} {a:Act} {w:World}
theorem Bx {o:Oper}{k:AV→AS→Prop}{b:Bool}{ts:List Nat}{next:Act→World→Prop}{Q:Exit→Act→World→Prop}(he:JZ P E N o a w th ts st.m k b)(hd: ∀i,o.dst=some i→i<N)
  (hn: ∀x st' th' z' a' w',k x st'→Sim E N (st'.put o.dst x) th' z' a' w'→Later th th'→ExtT th ts w w'→next a' w'):o.wp P a w next Q:=by
 obtain⟨v,x,st',th',z',w',hrun,hk,hs,hr,hm,_,hl,hx⟩:=he;unfold Oper.wp
 rcases hrun with hrun |⟨hrun,rfl⟩
 ·rw[hrun,Oper.upon_value];exact hn x st' th' z' _ w' hk (hs.put hr o.dst hd) hl hx
 ·rw[hrun,Oper.upon_skip];exact hn x st' th' z' _ w' hk (hs.put hr o.dst hd) hl hx
theorem Dj {ws ts:List Nat}{x:Option (Prop×AV×AS)}{k kp:AV→AS→Prop}(h:GW P E N ws ts (K0 x) st k kp):J5 ws ts=true∧B3 x k:=by
 cases x with
 |none=>exact h.elim
 |some v=>exact⟨h.1.1,h.1.2,h.2⟩
theorem Hl {ws ts:List Nat}{op:Op}{k kp:AV→AS→Prop}(h:GW P E N ws ts (O6 P E.G st op (Cj P E.G st op)) st k kp):J5 ws ts=true∧B3 (EJ P E.G st op) k:=by rw[Lz] at h;exact Dj h
theorem Hm {ws ts:List Nat}{x:Option AV}{k kp:AV→AS→Prop}(h:GW P E N ws ts (G1 st x) st k kp):False:=by
 cases x with
 |none=>exact h
 |some v=>exact h
theorem FB {ws ts:List Nat}(h:J5 ws ts=true): ∀t ∈ ts,t ∈ ws:=by
 intro t ht;simpa using List.all_eq_true.1 h t ht
theorem Km (h:Sim E N st th z a w){ws:List Nat}(o:Oper){k kp:AV→AS→Prop}(hk:GW P E N ws (EN st E.G o.op) (An P E.G st o.op) st k kp)(hd: ∀i,o.dst=some i→i<N){next:Act→World→Prop}{Q:Exit→Act→World→Prop}
  (hn: ∀x st' th' z' a' w' ts,k x st'→Sim E N (st'.put o.dst x) th' z' a' w'→Later th th'→ExtT th ts w w'→(∀t ∈ ts,t ∈ ws)→next a' w') (hp: ∀x v st' th' z' w',kp x st'→Sim E N st' th' z' a w'→Rep w' z' th' x v→Q (.panic [{v:=v,recovered:=false}]) a w'):o.wp P a w next Q:=by
 obtain⟨dst,op,ty,pos,aft,gd⟩:=o;simp only at hk;cases op
 case call c=>
  obtain⟨callee,args,ats⟩:=c
  cases callee with
  |value f=>
   change GW P E N ws _ (Pq (ev st E.G f) (Du st E.G args.toList)) st k kp at hk;unfold Pq at hk;split at hk
   ·rename_i g caps xs hf hx
    obtain⟨ts,hts,hok,hc⟩:=hk;have hf':=AN h hf;generalize hv:a.eval f=fv at hf'
    cases hf' with
    |fn _ _ _ ys hl hxx=>
     have hr:=(Bs h hx).append ⟨hl,hxx⟩;have hcall:=hc th z a w _ h hr;unfold Oper.wp
     have hrun:(execOp a.eval ⟨dst,.call {callee:= .value f,args:=args,argTypes:=ats},ty,pos,aft,gd⟩).run P w= .ok (.enter g (List.map a.eval args.toList++ys).toArray) w:=by
      simp only[execOp,resolve,hv,Deferred.ofValue,Sem.run_bind,Sem.run_pure,Result.andThen_ok,invoke];rw[EO hok]
      congr 2
      apply Array.ext';simp
     rw[hrun,Oper.upon_enter];refine hcall.mono ?_;rintro e w' ⟨v,x,st',th',z',hh,hm,hs,hrr,hl,hext⟩
     rcases hh with ⟨rfl,hk⟩ |⟨rfl,hk⟩
     ·exact hn x st' th' z' _ w' ts hk (hs.put hrr dst hd) hl hext hts
     ·exact hp x v st' th' z' w' hk hs hrr
   ·exact hk.elim
  |builtin b=>
   cases b
   case append=>
    obtain⟨h1,h2⟩:=Hl hk;exact Bx (HA h h2) hd (fun x st' th' z' a' w' g1 g2 g3 g4=>hn x st' th' z' a' w' _ g1 g2 g3 g4 (FB h1))
   case clear=>
    obtain⟨h1,h2⟩:=Dj hk;exact Bx (JV h (D5 _ _ _ _ _ h2)) hd (fun x st' th' z' a' w' g1 g2 g3 g4=>hn x st' th' z' a' w' _ g1 g2 g3 g4 (FB h1))
   all_goals (rw[Bu (by simp) (by simp) (by simp)] at hk;exact(Hm hk).elim)
  |invoke a b=>rw[Bu (by simp) (by simp) (by simp)] at hk;exact(Hm hk).elim
 case panic x=>
  change GW P E N ws _ (RD (ev st E.G x)) st k kp at hk;unfold RD at hk
  split at hk<;>exact hk.elim
 case box=>exact Bx (KC h (D5 _ _ _ _ _ (Dj hk).2)) hd (fun x st' th' z' a' w' g1 g2 g3 g4=>hn x st' th' z' a' w' _ g1 g2 g3 g4 (fun t ht=>by cases ht))
 case alloc=>exact Bx (Gl h (D5 _ _ _ _ _ (Dj hk).2)) hd (fun x st' th' z' a' w' g1 g2 g3 g4=>hn x st' th' z' a' w' _ g1 g2 g3 g4 (fun t ht=>by cases ht))
 case buildSlice=>exact Bx (Fp h (Hl hk).2) hd (fun x st' th' z' a' w' g1 g2 g3 g4=>hn x st' th' z' a' w' _ g1 g2 g3 g4 (fun t ht=>by cases ht))
 case store=>
  obtain⟨h1,h2⟩:=Hl hk;exact Bx (IY h h2) hd (fun x st' th' z' a' w' g1 g2 g3 g4=>hn x st' th' z' a' w' _ g1 g2 g3 g4 (FB h1))
 case makeSlice=>exact Bx (E5 h (D5 _ _ _ _ _ (Dj hk).2)) hd (fun x st' th' z' a' w' g1 g2 g3 g4=>hn x st' th' z' a' w' _ g1 g2 g3 g4 (fun t ht=>by cases ht))
 case makeMap=>exact Bx (EZ h (Dj hk).2) hd (fun x st' th' z' a' w' g1 g2 g3 g4=>hn x st' th' z' a' w' _ g1 g2 g3 g4 (fun t ht=>by cases ht))
 case mapUpdate=>
  obtain⟨h1,h2⟩:=Dj hk;exact Bx (F4 h h2) hd (fun x st' th' z' a' w' g1 g2 g3 g4=>hn x st' th' z' a' w' _ g1 g2 g3 g4 (FB h1))
 all_goals first |exact(show False from hk).elim |exact(Hm (st:=st) (x:=qv P E.G st _) hk).elim
def Xs (ws:List Nat)(th0:List NLoc)(b:Nat):Prop:= ∃i ∈ ws,∃L,th0[i]?=some L∧L.ph=false∧L.b=b
theorem RK (h:Sim E N st th z a w){ws:List Nat}{th0:List NLoc}(hl:Later th0 th)(hp:OY ws st=true){b:Nat}(hb:Kn (hid ws st) th z b): ¬Xs ws th0 b:=by
 rintro⟨i,hi,L,h1,h2,rfl⟩;have hpi:(lk st.o i).isSome=true:=List.all_eq_true.1 hp i hi;obtain⟨nd,hnd⟩:=Option.isSome_iff_exists.1 hpi;have hL:=hl i L h1;obtain⟨L',k1,_,k3⟩:=h.mem.nds i nd hnd;rw[hL] at k1;cases k1
 rcases hb with ⟨t,hz⟩ |⟨m,nd',M,g1,g2,g3,g4⟩
 ·exact(k3 h2).2.1 t hz
 ·have g1':lk (Gw ws st.o) m=some nd':=g1
  rw[K2] at g1';split at g1'
  ·cases g1'
  ·rename_i hm
   have:=h.mem.inj m i nd' nd M L g1' hnd g2 hL g3 h2 g4;subst this;exact hm hi
theorem Me (h:Sim E N st th z a w)(ws:List Nat):Sim E N (hid ws st) th z a w:=
 h.sub rfl (fun i x hi=>by
  have hi':lk (Gw ws st.o) i=some x:=hi;rw[K2] at hi';split at hi'
  ·cases hi'
  ·exact hi') (fun _ _ h=>h)
theorem NG {op:Op}{st':AS}{k:AV→AS→Prop}(hq:DG op=true)(h:Jp (An P E.G st' op) st k): ∃v,qv P E.G st' op=some v∧k v st:=by
 have key: ∀x:Option AV,Jp (G1 st' x) st k→ ∃v,x=some v∧k v st:=by
  intro x hx
  cases x with
  |none=>exact hx.elim
  |some v=>exact⟨v,rfl,hx⟩
 cases op
 case call c=>
  obtain⟨callee,args,ats⟩:=c
  cases callee with
  |value f=>simp[DG] at hq
  |builtin b=>cases b<;>first |(simp[DG] at hq;done) |(rw[Bu (by simp) (by simp) (by simp)] at h;exact key _ h)
  |invoke a b=>simp[DG] at hq
 all_goals first |(simp[DG] at hq;done) |exact(show False from h).elim |exact key _ h
theorem Nk {ws ts:List Nat}{th0:List NLoc}{w':World}(hl:Later th0 th)(hpre: ∀i ∈ ws,∃L,th0[i]?=some L)(hts: ∀t ∈ ts,t ∈ ws)(h:ExtT th ts w w'):ExtX (Xs ws th0) w w':=
 ⟨h.size,fun b hb hX=>h.same b hb (fun n hn L hL hp e=>by
  obtain⟨L0,h0⟩:=hpre n (hts n hn);have:=hl n L0 h0;rw[hL] at this;cases this
  exact hX ⟨n,hts n hn,L,h0,hp,e⟩),h.sys⟩
theorem JN {ops:Array Oper}{kp:AV→AS→Prop}{Q:Exit→Act→World→Prop}{K:AS→Prop}{n:Nat}{ws:List Nat}{th0:List NLoc}(hpre: ∀i ∈ ws,∃L,th0[i]?=some L)(hQ: ∀c a d v w,Q (.panic c) (a.put d v) w→Q (.panic c) a w)
  (hp: ∀x v st' th' z' a' w',kp x st'→Sim E N st' th' z' a' w'→Rep w' z' th' x v→Q (.panic [{v:=v,recovered:=false}]) a' w')
  (hK: ∀st' th' z' a' w',K st'→Sim E N st' th' z' a' w'→Q .normal a' w') (hd: ∀o ∈ ops.toList,∀i,o.dst=some i→i<N)
  (h1:Region.noSelect ops=true) (h2: ∀s,HeadInv .any ops n s→ ∀i,i<n→s.getD i true=false→ ∀j ∈ Region.ready .any ops s,j<n):
  ∀(ord:List Nat){s:Array Bool}{st:AS}{th:List NLoc}{z:Ag}{a:Act}{w:World},HeadInv .any ops n s→Gy ops n ord s=true→Sim E N st th z a w→Later th0 th→FY P E N ws (Cz ops) kp (ops.toList.drop n) (D2 ops ord) st K→O3 P ops Q n (Xs ws th0) (Md P ops Q n) ord.length s a w
 | [],s,st,th,z,a,w,inv,ho,h,hl,hx=>⟨ho,Cq hp hK _ (fun o ho=>hd o (List.mem_of_mem_drop ho)) h (Dc hx)⟩
 |i::rest,s,st,th,z,a,w,inv,ho,h,hl,hx=>by
  simp only[Gy,Bool.and_eq_true,decide_eq_true_eq] at ho;obtain⟨⟨hin,ho1⟩,ho2⟩:=ho
  cases hi:ops[i]? with
  |none=>rw[hi] at ho1;simp at ho1
  |some o=>
   simp only[D2,List.filterMap_cons,hi] at hx;unfold FY at hx;have hmem:o ∈ ops.toList:=Array.mem_toList_iff.2 (Array.mem_of_getElem? hi);have hdo:=hd o hmem;simp only[hi] at ho1;have ih: ∀ {s:Array Bool}{st:AS}{th:List NLoc}{z:Ag}{a:Act}{w:World},HeadInv .any ops n s→Gy ops n rest s=true→Sim E N st th z a w→Later th0 th→FY P E N ws (Cz ops) kp (ops.toList.drop n) (D2 ops rest) st K→O3 P ops Q n (Xs ws th0) (Md P ops Q n) rest.length s a w:=
    JN hpre hQ hp hK hd h1 h2 rest
   have hx':Eb (Gb (Cz ops) st o.guard) (match DG o.op with
     |true=>OY ws st=true∧Jp (An P E.G (hid ws st) o.op) st (fun v st'=>FY P E N ws (Cz ops) kp (ops.toList.drop n) (D2 ops rest) (st'.put o.dst v) K)
     |false=>GW P E N ws (EN st E.G o.op) (An P E.G st o.op) st (fun v st'=>FY P E N ws (Cz ops) kp (ops.toList.drop n) (D2 ops rest) (st'.put o.dst v) K) kp) (FY P E N ws (Cz ops) kp (ops.toList.drop n) (D2 ops rest) (st.put o.dst (.r (.tuple #[]))) K):=by
    split at hx
    ·rename_i e;rw[e];exact hx
    ·rename_i e;rw[e];exact hx
    ·exact hx.elim
    ·rename_i e;rw[e];exact hx
   have guard:=Ez h hx';split at ho1
   ·rename_i hq
    simp only[Bool.and_eq_true] at ho1;obtain⟨hr,hf⟩:=ho1
    have hr':i ∈ Region.ready .any ops s:=by simpa using hr
    rcases guard with ⟨hw,hs⟩ |⟨hw,hs⟩
    ·rw[hq] at hs
     obtain⟨hprs,hs⟩:=hs;obtain⟨x,hqv,hs⟩:=NG hq hs;obtain⟨v,hrep,hrun⟩:=Eo (Me h ws) o hqv;refine Ik hi (Region.noSelect_spec h1) (fun c a w=>hQ c a _ _ w) h2 hin (fun s a w hL=>seqB_ready hL.1) _ s a w inv (Region.free_spec hi hf) hr' (.inl ⟨hw,fun w' e=>hrun w' (fun b hb=>e.same b (hb.lt (Me h ws)) (RK h hl hprs hb))⟩)
      (ih (inv.set hr' hin) ho2 (h.put hrep o.dst hdo) hl hs)
    ·exact Ik hi (Region.noSelect_spec h1) (fun c a w=>hQ c a _ _ w) h2 hin (fun s a w hL=>seqB_ready hL.1) _ s a w inv (Region.free_spec hi hf) hr' (.inr ⟨hw,rfl⟩)
      (ih (inv.set hr' hin) ho2 (h.put (.r th undef) o.dst hdo) hl hs)
   ·rename_i hq
    have hq:DG o.op=false:=by simpa using hq
    simp only[decide_eq_true_eq] at ho1
    have hr':i ∈ Region.ready .any ops s:=by rw[ho1];simp
    refine⟨fun h0=>(by rw[h0] at hr';cases hr'),fun j hj=>?_⟩;rw[ho1] at hj
    obtain rfl:j=i:=by simpa using hj
    refine⟨hin,?_⟩;unfold wpOp;simp only[hi]
    rcases guard with ⟨hw,hs⟩ |⟨hw,hs⟩
    ·rw[if_pos hw]
     rw[hq] at hs;exact .inl (Km h o hs hdo (fun x st' th' z' a' w' ts g1 g2 g3 g4 g5=>⟨Nk hl hpre g5 g4,ih (inv.set hr' hin) ho2 g2 (hl.trans g3) g1⟩) (fun x v st' th' z' w' g1 g2 g3=>hp x v st' th' z' a w' g1 g2 g3))
    ·rw[if_neg (by rw[hw];exact Bool.false_ne_true)]
     exact⟨ExtX.refl _ w,ih (inv.set hr' hin) ho2 (h.put (.r th undef) o.dst hdo) hl hs⟩
theorem Rj {id:Nat}{ops:Array Oper}{AQ:AExit→AS→Prop}{ds:List (Option Nat)}{l l':List Oper}(hm:P.follows .mixedOrders=true)(ws:List Nat)(n:Nat)(ord:List Nat)(hB:Fi ops n ord=true)(hd:E2 N ops=true)
  (hds:Cz ops=ds) (ht:ops.toList.drop n=l') (hh:D2 ops ord=l) (hws:OY ws st=true) (h: ∀(K:AS→Prop)(kp:AV→AS→Prop),(∀st',AQ .normal st'→K st')→(∀x st',AQ (.pan x) st'→kp x st')→FY P E N ws ds kp l' l st K):AWP P E N (.region id ops true) st AQ:=by
 subst hds ht hh;have h:=h (AQ .normal) (fun x st=>AQ (.pan x) st) (fun _ h=>h) (fun _ _ h=>h);intro Q hQ th z a w hs;simp only[Fi,Bool.and_eq_true,decide_eq_true_eq] at hB;obtain⟨⟨⟨b1,b2⟩,b5⟩,b6⟩:=hB
 have hle:n≤ops.size:=by
  rcases Bool.or_eq_true _ _▸b2 with b2 |b2
  ·exact Nat.le_of_eq (of_decide_eq_true b2)
  ·simp only[Bool.and_eq_true,decide_eq_true_eq] at b2;exact Nat.le_of_lt b2.2
 have hlt: ∀s,HeadInv .any ops n s→ ∀i,i<n→s.getD i true=false→ ∀j ∈ Region.ready .any ops s,j<n:=by
  intro s inv i hi hs j hj
  rcases Bool.or_eq_true _ _▸b2 with b2 |b2
  ·have:=of_decide_eq_true b2
   obtain⟨_,oj,hoj,_⟩:=mem_ready.1 hj;rw[this];exact(Array.getElem?_eq_some_iff.1 hoj).1
  ·simp only[Bool.and_eq_true,decide_eq_true_eq] at b2
   by_cases h:j<n
   ·exact h
   ·exact absurd hj (tail_waits b2.1.1 b2.1.2 b2.2 inv _ i rfl hi hs j (by omega))
 let Q':Exit→Act→World→Prop:=fun e a w=>match e with
  | .panic c=> ∀a':Act,a'.defers=a.defers→Q (.panic c) a' w
  |e=>Q e a w
 refine wp_mono (Q:=Q') ?_ (fun e a w hq=>by
  cases e
  case panic c=>exact hq a rfl
  all_goals exact hq)
 have inv0:HeadInv .any ops n (Array.replicate ops.size false):=
  ⟨by simp,fun j oj _ hl=>(by rw[getD_replicate_false] at hl;cases hl),fun t _ ht=>getD_in (by simpa using ht) (getD_replicate_false _ _)⟩
 refine wp_region_any hm ?_
 have hpre: ∀i ∈ ws,∃L,th[i]?=some L:=by
  intro i hi;obtain⟨nd,hnd⟩:=Option.isSome_iff_exists.1 (List.all_eq_true.1 hws i hi);obtain⟨L,h1,_⟩:=hs.mem.nds i nd hnd;exact⟨L,h1⟩
 have key:=JN (Q:=Q') (K:=AQ .normal) (kp:=fun x st=>AQ (.pan x) st) (P:=P) (th0:=th) hpre (fun c a d v w hq a' ha=>hq a' (by rw[ha];cases d<;>rfl)) (fun x v st' th' z' a' w' g1 g2 g3 a2 ha=>hQ.2.2.2 x v st' th' z' w' g1 g2.mem g3 a2 (ha.trans g2.dfs))
  (fun st' th' z' a' w' g1 g2=>hQ.1 st' th' z' a' w' g1 g2) (Dr hd) b1 hlt ord inv0 b6 (hs.ext (IM w)) (Later.refl th) h
 have:=LU (g:=ops.size - n) (fun s a w hL=>by
  have:=wpAny_of_seq (md:= .any) (Q':=Q') (ops.toList.drop n) n s a w (fun j=>by simp[List.getElem?_drop]) (by simpa using hL.1) hL.2
  simpa using this) _ _ _ _ key
 rw[b5,show n+(ops.size - n)=ops.size by omega] at this;exact this
end
@[go_sem] theorem UE (x:Operand):DG (.move x)=true:=rfl
@[go_sem] theorem S8 (x:Operand):DG (.assign x)=true:=rfl
@[go_sem] theorem UD (c a b:Operand):DG (.pick c a b)=true:=rfl
@[go_sem] theorem UF (T:TypeId) (x:Operand):DG (.load T x)=true:=rfl
@[go_sem] theorem Qf (x:Operand):DG (.nilCheck x)=true:=rfl
@[go_sem] theorem Uj (op:BinOp) (T T':TypeId) (x y:Operand):DG (.binOp op T x y T')=true:=rfl
@[go_sem] theorem VI (op:UnOp) (T:TypeId) (x:Operand):DG (.unOp op T x)=true:=rfl
@[go_sem] theorem RQ (s d:TypeId) (x:Operand):DG (.convert s d x)=true:=rfl
@[go_sem] theorem TB (T:TypeId) (x:Operand) (lo hi m:Option Operand):DG (.slice T x lo hi m)=true:=rfl
@[go_sem] theorem Q6 (T:TypeId) (x:Operand) (f:Nat):DG (.fieldAddr T x f)=true:=rfl
@[go_sem] theorem Q5 (T:TypeId) (x i:Operand):DG (.indexAddr T x i)=true:=rfl
@[go_sem] theorem TD (T:TypeId) (x i:Operand):DG (.index T x i)=true:=rfl
@[go_sem] theorem RP (t:Operand) (i:Nat):DG (.extract t i)=true:=rfl
@[go_sem] theorem TF (T:TypeId) (ps:Array (Nat×Operand)):DG (.build T ps)=true:=rfl
@[go_sem] theorem Uh (args:Array Operand) (ats:Array TypeId):DG (.call {callee:= .builtin .len,args:=args,argTypes:=ats})=true:=rfl
@[go_sem] theorem Ui (T:TypeId) (x:Operand):DG (.box T x)=false:=rfl
@[go_sem] theorem TG (T:TypeId):DG (.alloc T)=false:=rfl
@[go_sem] theorem PY (T:TypeId) (n:Nat) (ps:Array (Nat×Operand)):DG (.buildSlice T n ps)=false:=rfl
@[go_sem] theorem TA (T:TypeId) (x v:Operand):DG (.store T x v)=false:=rfl
@[go_sem] theorem Q4 (T:TypeId) (l c:Operand):DG (.makeSlice T l c)=false:=rfl
@[go_sem] theorem RO (T:TypeId) (r:Option Operand):DG (.makeMap T r)=false:=rfl
@[go_sem] theorem Q3 (T:TypeId) (m i v:Operand):DG (.mapUpdate T m i v)=false:=rfl
@[go_sem] theorem S7 (T:TypeId) (x i:Operand) (b:Bool):DG (.lookup T x i b)=true:=rfl
@[go_sem] theorem T9 (f:Operand) (args:Array Operand) (ats:Array TypeId):DG (.call {callee:= .value f,args:=args,argTypes:=ats})=false:=rfl
@[go_sem] theorem S9 (args:Array Operand) (ats:Array TypeId):DG (.call {callee:= .builtin .append,args:=args,argTypes:=ats})=false:=rfl
@[go_sem] theorem TE (args:Array Operand) (ats:Array TypeId):DG (.call {callee:= .builtin .clear,args:=args,argTypes:=ats})=false:=rfl
@[go_sem] theorem Tx (st:AS) (G:List (Nat×List Value)) (T:TypeId) (x:Operand):EN st G (.box T x)=[]:=rfl
@[go_sem] theorem Ru (st:AS) (G:List (Nat×List Value)) (T:TypeId):EN st G (.alloc T)=[]:=rfl
@[go_sem] theorem OE (st:AS) (G:List (Nat×List Value)) (T:TypeId) (n:Nat) (ps:Array (Nat×Operand)):EN st G (.buildSlice T n ps)=[]:=rfl
@[go_sem] theorem PS (st:AS) (G:List (Nat×List Value)) (T:TypeId) (l c:Operand):EN st G (.makeSlice T l c)=[]:=rfl
@[go_sem] theorem Rr (st:AS) (G:List (Nat×List Value)) (f:Operand) (args:Array Operand) (ats:Array TypeId):EN st G (.call {callee:= .value f,args:=args,argTypes:=ats})=[]:=rfl
def Sb:Option AV→List Nat
 |some (.p n _ _)=>[n]
 |_=>[]
def Qs:Option (List AV)→List Nat
 |some (.s n _ _::_)=>[n]
 |_=>[]
def Sa:Option AV→List Nat
 |some (.q n)=>[n]
 |_=>[]
@[go_sem] theorem QV (st:AS) (G:List (Nat×List Value)) (T:TypeId) (r:Option Operand):EN st G (.makeMap T r)=[]:=rfl
@[go_sem] theorem PO (st:AS) (G:List (Nat×List Value)) (T:TypeId) (x i v:Operand):EN st G (.mapUpdate T x i v)=Sa (ev st G x):=rfl
@[go_sem] theorem Rs (st:AS) (G:List (Nat×List Value)) (T:TypeId) (x v:Operand):EN st G (.store T x v)=Sb (ev st G x):=rfl
@[go_sem] theorem Qr (st:AS) (G:List (Nat×List Value)) (args:Array Operand) (ats:Array TypeId):EN st G (.call {callee:= .builtin .append,args:=args,argTypes:=ats})=Qs (Du st G args.toList):=rfl
@[go_sem] theorem Rt (st:AS) (G:List (Nat×List Value)) (args:Array Operand) (ats:Array TypeId):EN st G (.call {callee:= .builtin .clear,args:=args,argTypes:=ats})=Qs (Du st G args.toList):=rfl
attribute [go_sem] Sb Qs Sa
section
variable (P:Program) (E:Env) (N:Nat) (ws:List Nat) (ds:List (Option Nat)) (kp:AV→AS→Prop) (tail rest:List Oper) (st:AS) (K:AS→Prop)
def RU (g:GV)(d:Option Nat)(op:Op):Prop:=match g with
 | .yes=>match DG op with
   |true=>OY ws st=true∧Jp (An P E.G (hid ws st) op) st (fun v st'=>FY P E N ws ds kp tail rest (st'.put d v) K)
   |false=>GW P E N ws (EN st E.G op) (An P E.G st op) st (fun v st'=>FY P E N ws ds kp tail rest (st'.put d v) K) kp
 | .no=>FY P E N ws ds kp tail rest (st.put d (.r (.tuple #[]))) K
 | .bad=>False
 | .ask b w=>(b=w→match DG op with
   |true=>OY ws st=true∧Jp (An P E.G (hid ws st) op) st (fun v st'=>FY P E N ws ds kp tail rest (st'.put d v) K)
   |false=>GW P E N ws (EN st E.G op) (An P E.G st op) st (fun v st'=>FY P E N ws ds kp tail rest (st'.put d v) K) kp)∧(b= !w→FY P E N ws ds kp tail rest (st.put d (.r (.tuple #[]))) K)
def Ul (q:Bool)(d:Option Nat)(op:Op):Prop:=match q with
 |true=>OY ws st=true∧Jp (An P E.G (hid ws st) op) st (fun v st'=>FY P E N ws ds kp tail rest (st'.put d v) K)
 |false=>GW P E N ws (EN st E.G op) (An P E.G st op) st (fun v st'=>FY P E N ws ds kp tail rest (st'.put d v) K) kp
def TM (r:SR)(d:Option Nat):Prop:=Jp r st (fun v st'=>FY P E N ws ds kp tail rest (st'.put d v) K)
def RR (ts:List Nat)(r:SR)(d:Option Nat):Prop:=GW P E N ws ts r st (fun v st'=>FY P E N ws ds kp tail rest (st'.put d v) K) kp
def My (g:Nat)(xs:List AV)(d:Option Nat):Prop:= ∃ts,(∀t ∈ ts,t ∈ ws)∧CallT P E N g xs st ts (fun v st'=>FY P E N ws ds kp tail rest (st'.put d v) K) kp
@[go_sem] theorem US:FY P E N ws ds kp tail [] st K=ex P E N ds kp tail st K:=rfl
@[go_sem] theorem Tb (d:Option Nat) (op:Op) (t:TypeId) (p:String) (af:Array Edge) (g:Option (Nat×Bool)):FY P E N ws ds kp tail (⟨d,op,t,p,af,g⟩::rest) st K=RU P E N ws ds kp tail rest st K (Gb ds st g) d op:=rfl
@[go_sem] theorem TX (d:Option Nat) (op:Op):RU P E N ws ds kp tail rest st K .yes d op=Ul P E N ws ds kp tail rest st K (DG op) d op:=rfl
@[go_sem] theorem UK (d:Option Nat) (op:Op):RU P E N ws ds kp tail rest st K .no d op=FY P E N ws ds kp tail rest (st.put d (.r (.tuple #[]))) K:=rfl
@[go_sem] theorem VK (d:Option Nat) (op:Op):Ul P E N ws ds kp tail rest st K true d op=(OY ws st=true∧TM P E N ws ds kp tail rest st K (An P E.G (hid ws st) op) d):=rfl
@[go_sem] theorem VL (d:Option Nat) (op:Op):Ul P E N ws ds kp tail rest st K false d op=RR P E N ws ds kp tail rest st K (EN st E.G op) (An P E.G st op) d:=rfl
@[go_sem] theorem TL (d:Option Nat) (v:AV) (s:AS):TM P E N ws ds kp tail rest st K (.val v s) d=FY P E N ws ds kp tail rest (st.put d v) K:=rfl
@[go_sem] theorem SA (ts:List Nat) (d:Option Nat) (c:Prop) (v:AV) (s:AS):RR P E N ws ds kp tail rest st K ts (.cond c v s) d=((J5 ws ts=true∧c)∧FY P E N ws ds kp tail rest (s.put d v) K):=rfl
@[go_sem] theorem SB (ts:List Nat) (d:Option Nat) (g:Nat) (xs:List AV):RR P E N ws ds kp tail rest st K ts (.call g xs) d=My P E N ws ds kp tail rest st K g xs d:=rfl
end
theorem TJ (ds:List (Option Nat))(st:AS):Gb ds st none= .yes:=rfl
attribute [go_sem] hid OY J5 Gw List.foldl_cons List.foldl_nil List.contains_cons List.contains_nil Option.isSome_some Option.isSome_none
section
variable {P:Program} {E:Env} {N:Nat} {ws:List Nat} {ds:List (Option Nat)} {kp:AV→AS→Prop} {tail rest:List Oper} {st:AS} {K:AS→Prop} {d:Option Nat}
theorem QP {f:Nat}{xs ys:List AV}{res:AV}{os:List (Nat×Nd)}{m:Nat}(hc:Con P E.G f ys [] 0 (Is res os m) No)(hb:D7 st xs=some ys)(hp:PT res)(hq: ∀p ∈ os,E8 p.2)
  (hk:FY P E N ws ds kp tail rest ({st with o:=Jl st.n os++st.o,n:=st.n+m}.put d (ren (· +st.n) res)) K):My P E N ws ds kp tail rest st K f xs d:=
 ⟨[],(fun _ h=>by cases h),Ig hc hb hp hq hk⟩
def NQ (σ:List Nat)(st:AS):Bool:=σ.all fun m=>match lk st.o m with
 |some (.ul _ _ _ _)=>false
 |_=>true
theorem JF {σ:List Nat}{st:AS}(h:NQ σ st=true):Ss σ st:=by
 intro m hm T k els op hl;have:=List.all_eq_true.1 h m hm;rw[hl] at this;cases this
theorem JW (σ:List Nat){f:Nat}{xs ys:List AV}{oc os:List (Nat×Nd)}{res res':AV}{m:Nat}{st':AS}(hc:Con P E.G f ys oc σ.length (Is res os m) No)(hb:Dt σ st xs=some ys)(ho:AH σ st.o oc)(hall: ∀i,i<σ.length→ ∃nd,lk oc i=some nd)
  (hlt: ∀i ∈ σ,i<st.n) (hnd:σ.Nodup) (hbig:st.n≤1000000000) (hw:(∀t ∈ σ,t ∈ ws)∧NQ σ st=true) (hp:PT res) (hp': ∀p ∈ os,E8 p.2) (hr:ren (fw σ st.n) res=res') (hs:{st with o:=Cx (fw σ st.n) os++Gw σ st.o,n:=st.n+(m - σ.length)}=st') (hk:FY P E N ws ds kp tail rest (st'.put d res') K):My P E N ws ds kp tail rest st K f xs d:=
 ⟨σ,hw.1,GH hc hb ho hall hlt hnd hbig (JF hw.2) (fun y o n ⟨h1,h2,h3⟩=>by subst h1 h2 h3 hr hs;exact⟨hp,hp',hk⟩) (fun _ _ _ h=>h.elim)⟩
end
end Go.AM
namespace Go.AM
open Go
structure AS.le (s s':AS):Prop where
 m: ∀i x,lk s.m i=some x→lk s'.m i=some x
 o: ∀i x,lk s.o i=some x→lk s'.o i=some x
section
variable {G:List (Nat×List Value)} {s s':AS}
theorem Mr (h:s.le s'){x:Operand}{v:AV}(he:ev s G x=some v):ev s' G x=some v:=by
 cases x with
 |tmp t=>exact h.m _ _ he
 |const v=>exact he
 |global g=>exact he
 |func f=>exact he
theorem IN (h:s.le s'): ∀ {l:List Operand}{c:List AV},Du s G l=some c→Du s' G l=some c
 | [],c,he=>he
 |x::r,c,he=>by
  simp only[Du] at he ⊢;split at he
  ·rename_i a l h1 h2;cases he;rw[Mr h h1,IN h h2]
  ·cases he
mutual
theorem LS (h:s.le s'): ∀(x:AV){y:AV},Eg s x=some y→Eg s' x=some y
 | .s n lo len,y,hb=>by
   simp only[Eg] at hb ⊢;split at hb
   ·rename_i T k els hn;rw[h.o _ _ hn];exact hb
   ·rename_i T k els hn;rw[h.o _ _ hn];exact hb
   ·cases hb
 | .p n i off,y,hb=>by
   simp only[Eg] at hb ⊢;split at hb
   ·rename_i T c hn;rw[h.o _ _ hn];exact hb
   ·cases hb
 | .r u,y,hb=>hb
 | .ro t k els,y,hb=>hb
 | .re t c off,y,hb=>hb
 | .agg c,y,hb=>by
   simp only[Eg,Option.map_eq_some_iff] at hb ⊢;obtain⟨c',h1,h2⟩:=hb;exact⟨c',EK h c h1,h2⟩
 | .tup c,y,hb=>by
   simp only[Eg,Option.map_eq_some_iff] at hb ⊢;obtain⟨c',h1,h2⟩:=hb;exact⟨c',EK h c h1,h2⟩
 | .fn f c,y,hb=>by
   simp only[Eg,Option.map_eq_some_iff] at hb ⊢;obtain⟨c',h1,h2⟩:=hb;exact⟨c',EK h c h1,h2⟩
 | .ifc t x,y,hb=>by
   simp only[Eg,Option.map_eq_some_iff] at hb ⊢;obtain⟨c',h1,h2⟩:=hb;exact⟨c',LS h x h1,h2⟩
 | .q n,y,hb=>by simp[Eg] at hb
 | .u _ _ _,y,hb=>by simp[Eg] at hb
 | .any,y,hb=>hb
theorem EK (h:s.le s'): ∀(c:List AV){d:List AV},D7 s c=some d→D7 s' c=some d
 | [],d,hb=>hb
 |x::r,d,hb=>by
  simp only[D7] at hb ⊢;split at hb
  ·rename_i y l h1 h2;cases hb;rw[LS h x h1,EK h r h2]
  ·cases hb
end
end
mutual
def Ed:AV→Bool
 | .r _ | .ro _ _ _ | .re _ _ _=>true
 | .agg c | .tup c=>Hu c
 |_=>false
def Hu:List AV→Bool
 | []=>true
 |x::r=>Ed x&&Hu r
end
mutual
theorem P4 (st:AS): ∀(x:AV),Ed x=true→GL st x=some (x,st)
 | .r v,_=>rfl
 | .ro t k els,_=>rfl
 | .re t c off,_=>rfl
 | .agg c,h=>by simp only[Ed] at h;simp only[GL,FL st c h]
 | .tup c,h=>by simp only[Ed] at h;simp only[GL,FL st c h]
 | .s n lo len,h=>by simp[Ed] at h
 | .p n i off,h=>by simp[Ed] at h
 | .fn f c,h=>by simp[Ed] at h
 | .ifc t x,h=>by simp[Ed] at h
 | .q n,h=>by simp[Ed] at h
 | .u _ _ _,h=>by simp[Ed] at h
 | .any,h=>by simp[Ed] at h
theorem FL (st:AS): ∀(c:List AV),Hu c=true→IE st c=some (c,st)
 | [],_=>rfl
 |x::r,h=>by
  simp only[Hu,Bool.and_eq_true] at h;simp only[IE,P4 st x h.1,FL st r h.2]
end
section
variable {P:Program} {E:Env} {N:Nat} {st:AS} {th:List NLoc} {z:Ag} {a:Act} {w:World}
theorem Rep.lt {x:AV}{v:Value}(h:Rep w z th x v){f:Nat→Nat}(hf: ∀i,i<th.length→f i=i):AM.ren f x=x:=by
 have lists: ∀(c:List AV)(ys:List Value),ys.length=c.length→(∀(i:Nat)(x:AV)(y:Value),c[i]?=some x→ys[i]?=some y→AM.ren f x=x)→renL f c=c:=by
  intro c
  induction c with
  |nil=>intro ys _ _;rfl
  |cons x r ih=>
   intro ys hl hx
   match ys,hl with
   |y::ys,hl=>
    simp only[renL];rw[hx 0 x y rfl rfl,ih ys (by simpa using hl) (fun i a b h1 h2=>hx (i+1) a b (by simpa using h1) (by simpa using h2))]
 induction h with
 |r th v=>rfl
 |nil th t k a c=>rfl
 |ro th t k els b o c ys hz hc hk hy h1 hx ih=>rfl
 |re th t c b o off ys hz hy hx ih=>rfl
 |s th n lo len c o L hL hp hl hc ho=>simp only[AM.ren];rw[hf n (List.getElem?_eq_some_iff.1 hL).1]
 |sn th n lo L hL hp=>simp only[AM.ren];rw[hf n (List.getElem?_eq_some_iff.1 hL).1]
 |p th n i off L hL=>simp only[AM.ren];rw[hf n (List.getElem?_eq_some_iff.1 hL).1]
 |agg th c ys hl hx ih=>simp only[AM.ren];rw[lists c ys hl (fun i x y h1 h2=>ih i x y h1 h2 hf)]
 |tup th c ys hl hx ih=>simp only[AM.ren];rw[lists c ys hl (fun i x y h1 h2=>ih i x y h1 h2 hf)]
 |fn th g c ys hl hx ih=>simp only[AM.ren];rw[lists c ys hl (fun i x y h1 h2=>ih i x y h1 h2 hf)]
 |ifc th t x v hx ih=>simp only[AM.ren];rw[ih hf]
 |q th n L hL=>simp only[AM.ren];rw[hf n (List.getElem?_eq_some_iff.1 hL).1]
 |any th v=>rfl
theorem Reps.lt {c:List AV}{ys:List Value}(h:Reps w z th c ys){f:Nat→Nat}(hf: ∀i,i<th.length→f i=i):renL f c=c:=by
 induction c generalizing ys with
 |nil=>rfl
 |cons x r ih=>
  obtain⟨y,ys',rfl,h1,h2⟩:=h.head;simp only[renL];rw[h1.lt hf,ih h2]
def Rb:Nd→Bool
 | .ul _ _ _ (_::_)=>false
 |_=>true
def Tj:List (Nat×Nd)→Bool
 | []=>true
 |p::r=>Rb p.2&&Tj r
theorem Mw: ∀ {o:List (Nat×Nd)}{i:Nat}{nd:Nd},Tj o=true→lk o i=some nd→Rb nd=true
 | [],i,nd,_,h=>by simp[lk] at h
 |(j,x)::r,i,nd,hc,h=>by
  simp only[Tj,Bool.and_eq_true] at hc;simp only[lk] at h;split at h
  ·cases h;exact hc.1
  ·exact Mw hc.2 h
theorem NdAt.lt {L:NLoc}{nd:Nd}(h:NdAt w z th L nd)(hc:Rb nd=true){f:Nat→Nat}(hf: ∀i,i<th.length→f i=i):A9 f nd=nd:=by
 cases nd with
 |box T c=>obtain⟨_,cells,fr,_,_,_,h4⟩:=h;simp only[A9];rw[h4.lt hf]
 |lst T k els=>rfl
 |ul T k els op=>cases op with
  |nil=>rfl
  |cons p r=>cases hc
 |mp l=>rfl
theorem Sim.more (h:Sim E N st th z a w)(k:Nat):Sim E N {st with n:=st.n+k} (th++List.replicate k ⟨0,0,0,0,false⟩) z a w:=by
 have m:=h.mem
 have old: ∀i nd L,lk st.o i=some nd→(th++List.replicate k (⟨0,0,0,0,false⟩:NLoc))[i]?=some L→th[i]?=some L:=by
  intro i nd L hi hL;obtain⟨M,h1,_,_⟩:=m.nds i nd hi;have:=BB (List.replicate k (⟨0,0,0,0,false⟩:NLoc)) h1;rw[hL] at this;cases this;exact h1
 refine⟨⟨by simp[m.len],fun i nd hi=>?_,fun i j x y L M hi hj hL hM=>m.inj i j x y L M hi hj (old i x L hi hL) (old j y M hj hM),m.zlt,m.grow,m.frame,m.zin,m.zout,m.zb,m.globs,fun i L hi=>BB _ (m.pre i L hi),m.sys,let ⟨U,hU⟩:=m.uls;⟨U,hU.on (Le.refl w z) (Nat.le_refl _) (fun _ _ _=>rfl) hU.nz (fun i T k els op hi=>⟨hi,fun _ _=> .inr rfl⟩) _ (fun i nd hi=> .inl (let ⟨L,h1,_⟩:=m.nds i nd hi;(List.getElem?_eq_some_iff.1 h1).1)) (fun i nd L j hi hL=>hU.kn i nd L j hi (old i nd L hi hL))⟩⟩,h.size,h.dfs,fun i x hi=>?_⟩
 ·obtain⟨L,h1,h2,h3⟩:=m.nds i nd hi
  exact⟨L,BB _ h1,h2.on (Le.refl w z) (fun _=>rfl) _,h3⟩
 ·obtain⟨y,hy,hr⟩:=h.slots i x hi
  exact⟨y,hy,hr.on (Le.refl w z) _⟩
theorem Sim.renL (h:Sim E N st th z a w)(ρ:List Nat){st':AS}(hr: ∀j ∈ ρ,j<st.n)(hb:st.n≤1000000000)(hm: ∀i x,lk st'.m i=some x→lk st.m i=some (ren (AG ρ) x))(ho: ∀i nd,lk st'.o i=some nd→ ∃j,ρ[i]?=some j∧lk st.o j=some (A9 (AG ρ) nd))(hn:st'.n=ρ.length)
  (hpre: ∀i,i<E.th0.length→ρ[i]?=some i) (hnd:ρ.Nodup):Sim E N st' (DL th ρ) z a w:=by
 have m:=h.mem
 have hr': ∀j ∈ ρ,j<th.length:=fun j hj=>by rw[m.len];exact hr j hj
 have hb':th.length≤1000000000:=by rw[m.len];exact hb
 refine⟨⟨by simp[DL,hn],fun i nd hi=>?_,fun i i' x y L M hi hi' hL hM e1 e2 hbb=>?_,m.zlt,m.grow,m.frame,m.zin,m.zout,m.zb,m.globs,fun i L hi=>?_,m.sys,let ⟨_,hU⟩:=m.uls;⟨_,hU.ren hr' hb' hnd ho⟩⟩,h.size,h.dfs,fun i x hi=>?_⟩
 ·obtain⟨j,hj,hnd⟩:=ho i nd hi
  obtain⟨L,k1,k2,k3⟩:=m.nds j _ hnd;exact⟨L,by rw[BE hr' hj];exact k1,k2.unren (DI hr' hb'),k3⟩
 ·obtain⟨j,hj,hx⟩:=ho i x hi
  obtain⟨j',hj',hy⟩:=ho i' y hi';rw[BE hr' hj] at hL;rw[BE hr' hj'] at hM;have:=m.inj j j' _ _ L M hx hy hL hM e1 e2 hbb;subst this;obtain⟨l1,e1⟩:=List.getElem?_eq_some_iff.1 hj;exact(List.getElem?_inj l1 hnd).1 (hj.trans hj'.symm)
 ·have hi':i<E.th0.length:=(List.getElem?_eq_some_iff.1 hi).1
  rw[BE hr' (hpre i hi')];exact m.pre i L hi
 ·obtain⟨y,hy,hrep⟩:=h.slots i _ (hm i x hi)
  exact⟨y,hy,hrep.unren (DI hr' hb') x rfl⟩
def GK (M r k:Nat):List Nat:=(List.range M).map fun i=>if r≤i∧i<r+k then M+(i - r) else i
theorem HQ {M r k i:Nat}(h:i<M):(GK M r k)[i]?=some (if r≤i∧i<r+k then M+(i - r) else i):=by
 simp[GK,h]
theorem F6 {M r k i:Nat}(h:i<M):AG (GK M r k) i=if r≤i∧i<r+k then M+(i - r) else i:=by
 simp[AG,HQ h]
theorem Ph (M r k:Nat):(GK M r k).length=M:=by simp[GK]
theorem R5 {M r k:Nat}(h:r+k≤M): ∀j ∈ GK M r k,j<M+k:=by
 intro j hj;simp only[GK,List.mem_map,List.mem_range] at hj;obtain⟨i,hi,rfl⟩:=hj
 split<;>omega
theorem NK {M r k:Nat}:(GK M r k).Nodup:=by
 unfold GK;rw[List.Nodup,List.pairwise_map];refine List.Pairwise.imp_of_mem ?_ (List.nodup_range (n:=M));intro i j hi hj hne;simp only[List.mem_range] at hi hj
 split<;>split<;>omega
def Gs (P:Program)(E:Env)(N:Nat)(R:AS)(o:Oper)(v:AV)(os:List (Nat×Nd))(k:Nat):Prop:=
 ∀(S:AS)(th:List NLoc)(z:Ag)(a:Act)(w:World),R.le S→S.n=R.n→Sim E N S th z a w→ ∀(next:Act→World→Prop)(Q:Exit→Act→World→Prop),
  (∀th' z' a' w',Sim E N ({S with o:=os++S.o,n:=S.n+k}.put o.dst v) th' z' a' w'→next a' w')→o.wp P a w next Q
theorem QD {R:AS}{o:Oper}{v:AV}(hd: ∀i,o.dst=some i→i<N)(hv:qv P E.G R o.op=some v):Gs P E N R o v [] 0:=by
 intro S th z a w hle hn hs next Q hnext;have hR:Sim E N R th z a w:=hs.sub hn.symm hle.o hle.m;obtain⟨u,hr,hrun⟩:=Eo hR o hv;unfold Oper.wp;rw[hrun w SameK.refl,Oper.upon_value];exact hnext th z _ w (hs.put hr o.dst hd)
theorem MF {R:AS}{o:Oper}{T e:TypeId}{len sz s1 b1 b2:Nat}{z1:Option (List Value)}{z2:List Value}{k2:TK}{parts:Array (Nat×Operand)}{c:List AV}{els:List (List AV)}(hd: ∀i,o.dst=some i→i<N)(ho:o.op= .buildSlice T len parts)(hT:AT P T=some ⟨.slice e,s1,b1,z1⟩)(hTe:AT P e=some ⟨k2,sz,b2,some z2⟩)
  (hc:Du R E.G (parts.toList.map (·.2))=some c) (hp:Hu c=true) (hels:GE sz 0 (parts.toList.map (·.1)) c=some els) (hlen:len=els.length∧len * sz≤16777216):Gs P E N R o (.s R.n 0 len) [(R.n,.lst e sz els)] 1:=by
 intro S th z a w hle hn hs next Q hnext
 have hk:Dx P E N S o.op (fun x s=>x= .s S.n 0 len∧s=C2 S (.lst e sz els)) (fun _ _=>False):=by
  rw[ho];simp only[Dx,EJ,Cj,hT,IN hle hc,hTe,FL S c hp,hels,B3];exact⟨hlen,by simp⟩
 refine Dw hs o hk hd (fun x st' th' z' a' w' ⟨h1,h2⟩ h3 _=>?_) (fun x v st' th' z' w' h=>h.elim);subst h1 h2;refine hnext th' z' a' w' ?_;rw[←hn];exact h3
theorem LG {R:AS}{o:Oper}{T:TypeId}{s1 b1:Nat}{zs:List Value}{k1:TK}(hd: ∀i,o.dst=some i→i<N)(ho:o.op= .alloc T)(hT:AT P T=some ⟨k1,s1,b1,some zs⟩):Gs P E N R o (.p R.n 0 0) [(R.n,.box T (zs.map .r))] 1:=by
 intro S th z a w hle hn hs next Q hnext
 have hk:Dx P E N S o.op (fun x s=>x= .p S.n 0 0∧s=C2 S (.box T (zs.map .r))) (fun _ _=>False):=by
  rw[ho];simp only[Dx,Cj,hT,B3];exact⟨trivial,by simp⟩
 refine Dw hs o hk hd (fun x st' th' z' a' w' ⟨h1,h2⟩ h3 _=>?_) (fun x v st' th' z' w' h=>h.elim);subst h1 h2;refine hnext th' z' a' w' ?_;rw[←hn];exact h3
theorem MG {R:AS}{o:Oper}{f:Operand}{args:Array Operand}{ats:Array TypeId}{g k:Nat}{caps xs ys:List AV}{res:AV}{os:List (Nat×Nd)}(hd: ∀i,o.dst=some i→i<N)(ho:o.op= .call {callee:= .value f,args:=args,argTypes:=ats})(hf:ev R E.G f=some (.fn g caps))(hx:Du R E.G args.toList=some xs)
  (hc:Con P E.G g ys [] 0 (Is res os k) No) (hb:D7 R (xs++caps)=some ys) (hp:PT res) (hp': ∀p ∈ os,E8 p.2):Gs P E N R o (ren (· +R.n) res) (Jl R.n os) k:=by
 intro S th z a w hle hn hs next Q hnext
 have hk:Dx P E N S o.op (fun x s=>x=ren (· +S.n) res∧s={S with o:=Jl S.n os++S.o,n:=S.n+k}) (fun _ _=>False):=by
  rw[ho];simp only[Dx,Mr hle hf,IN hle hx,HE];exact Ig hc (EK hle _ hb) hp hp' ⟨rfl,rfl⟩
 refine Dw hs o hk hd (fun x st' th' z' a' w' ⟨h1,h2⟩ h3 _=>?_) (fun x v st' th' z' w' h=>h.elim);subst h1 h2;refine hnext th' z' a' w' ?_;rw[←hn];exact h3
end
structure En where
 i:Nat
 d:Nat
 v:AV
 o:List (Nat×Nd)
structure PU where
 r:Nat
 k:Nat
 anc:List Nat
 chk:List (Nat×Nat)
def Gi:List En→List (Nat×AV)→List (Nat×AV)
 | [],m=>m
 |e::r,m=>(e.d,e.v)::Gi r m
def KA:List En→List (Nat×Nd)→List (Nat×Nd)
 | [],m=>m
 |e::r,m=>e.o++KA r m
def NS:List Nat→Nat→Bool
 | [],_=>false
 |d::r,i=>if d=i then true else NS r i
theorem Mj (l:List Nat)(i:Nat):NS l i=l.contains i:=by
 induction l with
 |nil=>rfl
 |cons d r ih=>
  simp only[NS,List.contains_cons,ih]
  by_cases h:d=i
  ·subst h;simp
  ·rw[if_neg h];simp[Ne.symm h]
def Gf (anc:List Nat):List En→List En
 | []=>[]
 |e::r=>bif NS anc e.i then e::Gf anc r else Gf anc r
def Ge (ds:List Nat):List (Nat×AV)→List (Nat×AV)
 | []=>[]
 |p::r=>bif NS ds p.1 then Ge ds r else p::Ge ds r
def Iu (bs:AS)(es:List En):AS:=⟨Gi es bs.m,KA es bs.o,bs.n⟩
theorem IF {anc:List Nat}{e:En}: ∀ {es:List En},e ∈ Gf anc es↔e ∈ es∧anc.contains e.i=true
 | []=>by simp[Gf]
 |x::r=>by
  simp only[Gf,Mj];cases h:anc.contains x.i
  ·simp only[cond_false,IF (es:=r),List.mem_cons]
   constructor
   ·rintro⟨h1,h2⟩;exact⟨.inr h1,h2⟩
   ·rintro⟨rfl |h1,h2⟩
    ·rw[h] at h2;cases h2
    ·exact⟨h1,h2⟩
  ·simp only[cond_true,IF (es:=r),List.mem_cons]
   constructor
   ·rintro(rfl |⟨h1,h2⟩)
    ·exact⟨.inl rfl,h⟩
    ·exact⟨.inr h1,h2⟩
   ·rintro⟨rfl |h1,h2⟩
    ·exact .inl rfl
    ·exact .inr ⟨h1,h2⟩
theorem HS: ∀ {es:List En}{m:List (Nat×AV)}{i:Nat}{x:AV},lk (Gi es m) i=some x→(∃e ∈ es,e.d=i∧e.v=x)∨((∀e ∈ es,e.d≠i)∧lk m i=some x)
 | [],m,i,x,h=> .inr ⟨by simp,h⟩
 |e::r,m,i,x,h=>by
  simp only[Gi,lk] at h;split at h
  ·rename_i he;cases h;exact .inl ⟨e,by simp,he,rfl⟩
  ·rename_i he
   rcases HS h with ⟨e',h1,h2⟩ |⟨h1,h2⟩
   ·exact .inl ⟨e',by simp[h1],h2⟩
   ·exact .inr ⟨fun e' h'=>(List.mem_cons.1 h').elim (fun q=>by subst q;exact he) (h1 e'),h2⟩
theorem Gh: ∀ {es:List En}{m:List (Nat×AV)}{i:Nat},(∀e ∈ es,e.d≠i)→lk (Gi es m) i=lk m i
 | [],m,i,h=>rfl
 |e::r,m,i,h=>by
  simp only[Gi,lk];rw[if_neg (h e (by simp)),Gh (fun e' h'=>h e' (by simp[h']))]
theorem IK: ∀ {es:List En}{m:List (Nat×AV)}{e:En},e ∈ es→(∀a ∈ es,∀b ∈ es,a.d=b.d→a=b)→lk (Gi es m) e.d=some e.v
 |x::r,m,e,he,hu=>by
  simp only[Gi,lk];split
  ·rename_i h;rw[hu x (by simp) e he h]
  ·rename_i h
   rcases List.mem_cons.1 he with rfl |he
   ·exact(h rfl).elim
   ·exact IK he (fun a ha b hb=>hu a (by simp[ha]) b (by simp[hb]))
theorem FH: ∀ {es:List En}{m:List (Nat×Nd)}{i:Nat}{x:Nd},lk (KA es m) i=some x→(∃e ∈ es,lk e.o i=some x)∨lk m i=some x
 | [],m,i,x,h=> .inr h
 |e::r,m,i,x,h=>by
  simp only[KA] at h;rw[DE] at h;split at h
  ·rename_i y hy;cases h;exact .inl ⟨e,by simp,hy⟩
  ·rcases FH h with ⟨e',h1,h2⟩ |h1
   ·exact .inl ⟨e',by simp[h1],h2⟩
   ·exact .inr h1
theorem IJ: ∀ {es:List En}{m:List (Nat×Nd)}{i:Nat}{x:Nd},(∀e ∈ es,∀y,lk e.o i=some y→y=x)→((∃e ∈ es,lk e.o i=some x)∨lk m i=some x)→lk (KA es m) i=some x
 | [],m,i,x,_,h=>h.elim (fun⟨e,he,_⟩=>by cases he) id
 |e::r,m,i,x,hu,h=>by
  simp only[KA];rw[DE];split
  ·rename_i y hy;rw[hu e (by simp) y hy]
  ·rename_i hy
   refine IJ (fun e' h'=>hu e' (by simp[h'])) ?_
   rcases h with ⟨e',he,h2⟩ |h
   ·rcases List.mem_cons.1 he with rfl |he
    ·rw[hy] at h2;cases h2
    ·exact .inl ⟨e',he,h2⟩
   ·exact .inr h
theorem HX {ds:List Nat}: ∀ {m:List (Nat×AV)}{i:Nat}{x:AV},lk (Ge ds m) i=some x→ds.contains i=false∧lk m i=some x
 | [],i,x,h=>by simp[Ge,lk] at h
 |p::r,i,x,h=>by
  obtain⟨j,y⟩:=p;simp only[Ge,Mj] at h;cases hc:ds.contains j
  ·rw[hc] at h
   simp only[cond_false,lk] at h;split at h
   ·rename_i e;subst e;exact⟨hc,by simp[lk,h]⟩
   ·rename_i e
    obtain⟨h1,h2⟩:=HX h;exact⟨h1,by simp[lk,e,h2]⟩
  ·rw[hc] at h
   simp only[cond_true] at h;obtain⟨h1,h2⟩:=HX h;refine⟨h1,?_⟩;simp only[lk];rw[if_neg]
   ·exact h2
   ·rintro rfl;rw[hc] at h1;cases h1
end Go.AM
namespace Go.AM
open Go
def Pt (P:Program)(G:List (Nat×List Value))(R:AS):Op→Option (Prop×TypeId×Nat×Nat×List (List AV))
 | .buildSlice T len parts=>match AT P T,Du R G (parts.toList.map (·.2)) with
   |some ⟨.slice e,_,_,_⟩,some c=>match AT P e with
    |some ⟨_,sz,_,some _⟩=>match GE sz 0 (parts.toList.map (·.1)) c with
     |some els=>some (Hu c=true∧len=els.length∧len * sz≤16777216,e,sz,len,els)
     |none=>none
    |_=>none
   |_,_=>none
 |_=>none
def Qm (P:Program)(G:List (Nat×List Value))(R:AS)(g:Nat)(xs:List AV)(r k:Nat)(kont:AV→List (Nat×Nd)→Prop):Prop:=
 ∃ys res os,Con P G g ys [] 0 (Is res os k) No∧D7 R xs=some ys∧PT res∧(∀p ∈ os,E8 p.2)∧(∀p ∈ os,p.1<k)∧(k=0→ren (· +R.n) res=ren (· +r) res)∧(0<k→ren (AG (GK R.n r k)) (ren (· +r) res)=ren (· +R.n) res∧Cx (AG (GK R.n r k)) (Jl r os)=Jl R.n os)∧kont (ren (· +r) res) (Jl r os)
def Gr (P:Program)(E:Env)(R:AS)(op:Op)(r k:Nat)(kont:AV→List (Nat×Nd)→Prop):Prop:=
 match op with
 | .buildSlice T len parts=>match Pt P E.G R (.buildSlice T len parts) with
   |some (c,e,sz,len,els)=>c∧k=1∧kont (.s r 0 len) [(r,.lst e sz els)]
   |none=>False
 | .alloc T=>match AT P T with
   |some ⟨_,_,_,some zs⟩=>k=1∧kont (.p r 0 0) [(r,.box T (zs.map .r))]
   |_=>False
 | .call {callee:= .value f,args,..}=>match ev R E.G f,Du R E.G args.toList with
   |some (.fn g caps),some xs=>Qm P E.G R g (xs++caps) r k kont
   |_,_=>False
 |op=>match qv P E.G R op with
  |some v=>k=0∧kont v []
  |none=>False
def QE (f:Nat→Nat):List (Nat×Nd)→Prop
 | []=>True
 |x::r=>A9 f x.2=x.2∧QE f r
theorem LH {f:Nat→Nat}: ∀ {o:List (Nat×Nd)},QE f o→ ∀x ∈ o,A9 f x.2=x.2
 |y::r,h,x,hx=>by
  rcases List.mem_cons.1 hx with rfl |hx
  ·exact h.1
  ·exact LH h.2 x hx
def MH (M n0:Nat):List (Nat×Nat)→AV→List (Nat×Nd)→Prop
 | [],_,_=>True
 |q::r,v,o=>(ren (AG (GK M (n0+q.1) q.2)) v=v∧QE (AG (GK M (n0+q.1) q.2)) o)∧MH M n0 r v o
theorem II {M n0:Nat}: ∀ {l:List (Nat×Nat)}{v:AV}{o:List (Nat×Nd)}{q:Nat×Nat},MH M n0 l v o→q ∈ l→ren (AG (GK M (n0+q.1) q.2)) v=v∧ ∀x ∈ o,A9 (AG (GK M (n0+q.1) q.2)) x.2=x.2
 |q::r,v,o,q',h,hq=>by
  rcases List.mem_cons.1 hq with rfl |hq
  ·exact⟨h.1.1,LH h.1.2⟩
  ·exact II h.2 hq
def P5 (P:Program)(E:Env)(N:Nat)(ds:List (Option Nat))(kp:AV→AS→Prop)(tail:List Oper)(n0:Nat)(bs:AS):List PU→List Oper→Nat→List En→(AS→Prop)→Prop
 |_,[],_,es,K=>ex P E N ds kp tail (Iu bs es) K
 | [],_::_,_,_,_=>False
 |p::pl,o::rest,j,es,K=>o.guard=none∧match o.dst with
  |none=>False
  |some d=>Gr P E (Iu bs (Gf p.anc es)) o.op (n0+p.r) p.k (fun v oo=>MH bs.n n0 p.chk v oo∧P5 P E N ds kp tail n0 bs pl rest (j+1) (⟨j,d,v,oo⟩::es) K)
section
variable {P:Program} {E:Env} {N:Nat}
structure PropE (P:Program)(E:Env)(N:Nat)(bs:AS)(n0:Nat)(L:List En)(j:Nat)(o:Oper)(p:PU)(e:En):Prop where
 i:e.i=j
 g:o.guard=none
 d:o.dst=some e.d
 fr: ∃vM oM,Gs P E N (Iu bs (Gf p.anc (L.take j).reverse)) o vM oM p.k∧(p.k=0→vM=e.v∧oM=e.o)∧(0<p.k→vM=ren (AG (GK bs.n (n0+p.r) p.k)) e.v∧oM=Cx (AG (GK bs.n (n0+p.r) p.k)) e.o)
 fix:MH bs.n n0 p.chk e.v e.o
 keys: ∀x ∈ e.o,n0+p.r≤x.1∧x.1<n0+p.r+p.k
theorem OT (f:Nat→Nat): ∀zs:List Value,renL f (zs.map AV.r)=zs.map AV.r
 | []=>rfl
 |x::r=>by simp only[List.map_cons,renL,ren,OT f r]
theorem NX {R:AS}{o:Oper}{r k:Nat}{kont:AV→List (Nat×Nd)→Prop}(hd: ∀i,o.dst=some i→i<N)(hr:r+k≤R.n)(h:Gr P E R o.op r k kont):
  ∃v oo vM oM,kont v oo∧Gs P E N R o vM oM k∧(k=0→vM=v∧oM=oo)∧(0<k→vM=ren (AG (GK R.n r k)) v∧oM=Cx (AG (GK R.n r k)) oo)∧ ∀x ∈ oo,r≤x.1∧x.1<r+k:=by
 obtain⟨dst,op,ty,pos,aft,gd⟩:=o;simp only at h hd;unfold Gr at h;split at h
 ·rename_i T len parts
  split at h
  ·rename_i c e sz len' els hl
   obtain⟨hc,rfl,hk⟩:=h;simp only[Pt] at hl;split at hl
   ·rename_i e1 s1 b1 z1 c1 hT he
    split at hl
    ·rename_i k2 sz2 b2 z2 hTe
     split at hl
     ·rename_i els2 hels
      simp only[Option.some.injEq,Prod.mk.injEq] at hl;obtain⟨rfl,rfl,rfl,rfl,rfl⟩:=hl;refine⟨_,_,_,_,hk,MF hd rfl hT hTe he hc.1 hels hc.2,fun h0=>(by cases h0),fun _=>?_,fun x hx=>?_⟩
      ·have e1:AG (GK R.n r 1) r=R.n:=by rw[F6 (by omega)];simp
       simp[ren,Cx,A9,e1]
      ·simp only[List.mem_singleton] at hx;subst hx;exact⟨Nat.le_refl _,by simp⟩
     ·cases hl
    ·cases hl
   ·cases hl
  ·exact h.elim
 ·rename_i T
  split at h
  ·rename_i k1 s1 b1 zs hT
   obtain⟨rfl,hk⟩:=h;refine⟨_,_,_,_,hk,LG hd rfl hT,fun h0=>(by cases h0),fun _=>?_,fun x hx=>?_⟩
   ·have e1:AG (GK R.n r 1) r=R.n:=by rw[F6 (by omega)];simp
    simp[ren,Cx,A9,e1,OT]
   ·simp only[List.mem_singleton] at hx;subst hx;exact⟨Nat.le_refl _,by simp⟩
  ·exact h.elim
 ·rename_i f args ats
  split at h
  ·rename_i g caps xs hf hx
   obtain⟨ys,res,os,hc,hb,hp,hp',hkeys,e1,e2,hk⟩:=h;refine⟨_,_,_,_,hk,MG hd rfl hf hx hc hb hp hp',fun h0=>?_,fun h0=>⟨(e2 h0).1.symm,(e2 h0).2.symm⟩,fun x hx=>?_⟩
   ·subst h0
    have ho:os=[]:=by
     cases os with
     |nil=>rfl
     |cons p r=>exact absurd (hkeys p (by simp)) (by omega)
    subst ho;exact⟨e1 rfl,rfl⟩
   ·simp only[Jl,List.mem_map] at hx
    obtain⟨p,hp1,rfl⟩:=hx;have:=hkeys p hp1;simp only;omega
  ·exact h.elim
 ·rename_i hq
  split at h
  ·rename_i v hv
   obtain⟨rfl,hk⟩:=h;exact⟨v,[],v,[],hk,QD hd hv,fun _=>⟨rfl,rfl⟩,fun h0=>(by omega),fun x hx=>by cases hx⟩
  ·exact h.elim
theorem Mq {ds:List (Option Nat)}{kp:AV→AS→Prop}{tail:List Oper}{n0:Nat}{bs:AS}{K:AS→Prop}: ∀ {ops:List Oper}{pl:List PU}{j:Nat}{es:List En},es.length=j→(∀o ∈ ops,∀i,o.dst=some i→i<N)→(∀p ∈ pl,n0+p.r+p.k≤bs.n)→
  P5 P E N ds kp tail n0 bs pl ops j es K→ ∃L:List En,L.take j=es.reverse∧L.length=j+ops.length∧(∀t,t<ops.length→ ∃o p e,ops[t]?=some o∧pl[t]?=some p∧L[j+t]?=some e∧PropE P E N bs n0 L (j+t) o p e)∧ex P E N ds kp tail (Iu bs L.reverse) K
 | [],pl,j,es,hj,_,_,h=>by
   have h':ex P E N ds kp tail (Iu bs es) K:=by cases pl<;>exact h
   refine⟨es.reverse,List.take_of_length_le (by rw[List.length_reverse,hj];exact Nat.le_refl _),by simp[hj],fun t ht=>by simp at ht,?_⟩;rw[List.reverse_reverse];exact h'
 |o::rest,[],j,es,hj,_,_,h=>h.elim
 |o::rest,p::pl,j,es,hj,hd,hp,h=>by
  simp only[P5] at h;obtain⟨hg,h⟩:=h;split at h
  ·exact h.elim
  ·rename_i d hdst
   obtain⟨v,oo,vM,oM,⟨hfix,hrest⟩,hfr,hk0,hk1,hkeys⟩:=NX (N:=N) (R:=Iu bs (Gf p.anc es)) (hd o (by simp)) (hp p (by simp)) h;obtain⟨L,h1,h2,h3,h4⟩:=Mq (by simp[hj]) (fun o' ho'=>hd o' (by simp[ho'])) (fun p' hp'=>hp p' (by simp[hp'])) hrest
   have hLj:L[j]?=some ⟨j,d,v,oo⟩:=by
    have:(L.take (j+1))[j]?=L[j]?:=List.getElem?_take_of_lt (by omega);rw[←this,h1];simp[hj]
   have htk:L.take j=es.reverse:=by
    have:(L.take (j+1)).take j=L.take j:=by rw[List.take_take];congr 1;omega
    rw[←this,h1];simp[hj]
   refine⟨L,htk,by simp[h2];omega,fun t ht=>?_,h4⟩
   cases t with
   |zero=>
    refine⟨o,p,⟨j,d,v,oo⟩,rfl,rfl,hLj,⟨rfl,hg,hdst,⟨vM,oM,?_,hk0,hk1⟩,hfix,hkeys⟩⟩;rw[Nat.add_zero,htk,List.reverse_reverse];exact hfr
   |succ t=>
    obtain⟨o',p',e',q1,q2,q3,q4⟩:=h3 t (by simpa using ht)
    have e1:j+1+t=j+(t+1):=by omega
    rw[e1] at q3 q4;exact⟨o',p',e',by simpa using q1,by simpa using q2,q3,q4⟩
def Q_ (ops:Array Oper)(n:Nat)(zs:List Nat):Bool:=
 (List.range n).all fun i=>zs.contains i||(List.range (n+1)).any fun j=>decide (i<j)&& !zs.contains j&&Region.waitsFor .any ops j i
def Ox:Op→Bool
 | .extract _ _=>true
 |_=>false
def T8:Op→Bool
 | .select _ _=>true
 |_=>false
def VY (ops:Array Oper)(n:Nat)(pl:List PU)(zs:List Nat):Bool:=
 zs.isEmpty||((zs.all fun z=>decide (z<n)&&match ops[z]? with
  |some oz=>Ox oz.op&&oz.guard.isNone&&((List.range ops.size).all fun j=>j==z||(match pl[z]? with |some p=>p.anc.contains j |none=>false)||match ops[j]? with
   |some oj=>(oj.after.toList.any fun e=>Region.binds .any e&&e.on==z)||oz.apart ops oj
   |none=>true)
  |none=>false)&&(ops.toList.all fun o=> !T8 o.op))
def U4 (ops:Array Oper)(n:Nat)(pl:List PU)(tot:Nat)(dss:List Nat)(zs:List Nat):Bool:=
 decide (pl.length=n)&&(decide (n=ops.size)||(Q_ ops n zs&&Region.chainB .any ops n&&decide (n<ops.size)))&&VY ops n pl zs&&
 ((List.range n).all fun i=>match ops[i]?,pl[i]? with
   |some o,some p=>(match o.dst with |some d=>dss.contains d |none=>false)&&(o.after.toList.all fun e=> !Region.binds .any e||decide (e.on<i))&&
    (p.anc.all fun a=>o.after.toList.any fun e=>Region.binds .any e&&(e.on==a||(match pl[e.on]? with |some q=>q.anc.contains a |none=>false)))&&
    decide (p.r+p.k≤tot)&&((List.range n).all fun h=>h==i||(match ops[h]?,pl[h]? with
     |some oh,some q=> !(oh.dst==o.dst)&&(q.k==0||p.anc.contains h||p.chk.contains (q.r,q.k))&&decide (p.r+p.k≤q.r∨q.r+q.k≤p.r)
     |_,_=>false))
   |_,_=>false)&&
 Region.seqB .any ops (ops.size - n) n ((List.range ops.size).map fun i=>decide (i<n)).toArray
theorem DK {α:Type}[DecidableEq α]: ∀ {l l':List α},l.Nodup→(∀x ∈ l,x ∈ l')→l.length≤l'.length
 | [],_,_,_=>Nat.zero_le _
 |x::r,l',h,hs=>by
  obtain⟨h1,h2⟩:=List.nodup_cons.1 h;have hx:=hs x (by simp);have:=DK (l':=l'.erase x) h2 (fun y hy=>(List.mem_erase_of_ne (fun e=>by subst e;exact h1 hy)).2 (hs y (by simp[hy])));rw[List.length_erase_of_mem hx] at this;have:=List.length_pos_of_mem hx;simp only[List.length_cons];omega
end
end Go.AM
