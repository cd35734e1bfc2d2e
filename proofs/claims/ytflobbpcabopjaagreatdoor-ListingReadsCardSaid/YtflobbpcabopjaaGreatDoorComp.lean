/-
 The translation of code into abstract code, and that it keeps the meaning, in whatever order. No condition.
-/
import Derived.Test.YtflobbpcabopjaaGreatDoorSnd
set_option linter.unusedSimpArgs false set_option linter.unusedVariables false namespace Go.Abs
variable {PK:R8}
def A1G(P:Program)(t:TypeId):Option (TypeId×TypeInfo):=
 match P.underlying t with
 |some (.slice e)=>(P.info? e).map fun i=>(e,i)
 |_=>none
def A9v(P:Program)(d:Option Nat)(e:TypeId):Option AO:=
 match d,P.info? e with
 |some d,some i=>match i.zero with
  |some z=>(zV z).map fun zv=> .box d i.size (.c zv)
  |none=>none
 |_,_=>none
def B4f(P:Program)(d:Option Nat)(e:TypeId)(x:Operand):Option AO:=
 match d,P.info? e,C3 x with
 |some d,some i,some x=>some (.box d i.size x)
 |_,_,_=>none
def B6K(P:Program)(t:TypeId)(parts:Array (Nat×Operand)):Option AO:=
 match P.underlying t,P.info? t with
 | some (.struct fs),some i=>match i.zero,fs.toList.mapM (B4o P)with
  |some z,some pl=>match cVs z.cells.toList,A4G (pl[·]?) parts.toList with
   |some zs,some qs=>some (.build zs qs)
   |_,_=>none
  |_,_=>none
 | some (.array _ e),some i=>match i.zero,P.info? e with
  |some z,some ei=>match cVs z.cells.toList,A4G (fun i=>some (i*ei.size,ei.size)) parts.toList with
   |some zs,some qs=>some (.build zs qs)
   |_,_=>none
  |_,_=>none
 |_,_=>none
def V7(P:Program)(hint:Bool)(d:Option Nat)(t:TypeId)(len:Nat)(parts:Array (Nat×Operand)):Option AO:=
 match A1G P t,d with
 | some (_,i),some d=>match i.zero,R9 (parts.toList.map (·.2))with
  |some z,some ys=>match cVs z.cells.toList with
   | some zs=>if zs.length=i.size∧len*i.size≤16777216∧parts.toList.map (·.1)=List.range' 0 parts.toList.length∧parts.toList.length=len then
     some (if hint then .mkisl i.size ys else .mkrow d i.size ys)else none
   |none=>none
  |_,_=>none
 |_,_=>none
def B1D(P:Program)(t:TypeId)(x:Operand):Option AO:=
 match A9W P t,C3 x with
 |some (n,a),some x=>some (.load n a x)
 |_,_=>none
def B6N(P:Program)(t:TypeId)(x v:Operand):Option AO:=
 match P.info? t,C3 x,C3 v with
 |some i,some x,some v=>some (.store i.size x v)
 |_,_,_=>none
def C6m(P:Program)(t:TypeId):Option Nat:=
 match P.underlying t with
 |some (.pointer _)=>some 0
 |some (.map _ _)=>some 1
 |some .bool=>some 2
 |_=>none
def B9K(P:Program)(t:TypeId):Bool:=
 match P.underlying t with
 |some (.struct _)=>true
 |_=>false
def B6S:BinOp→Option Bool
 | .eql=>some false
 | .neq=>some true
 |_=>none
def D6s:BinOp→Option Bool
 | .shl=>some true
 | .shr=>some false
 |_=>none
def C1G:Operand→Bool
 | .const .nilIface=>true
 |_=>false
theorem C1H{x:Operand}(h:C1G x=true):x= .const .nilIface:=by
 unfold C1G at h
 split at h
 ·rfl
 ·cases h
def B4k(P:Program)(t:TypeId):Bool:=
 match P.underlying t with
 |some (.interface _)=>true
 |_=>false
def B2Z(P:Program)(op:BinOp)(t:TypeId)(x y:Operand):Option AO:=
 match C3 x,B6S op with
 |some x,some neg=>if C1G y&&B4k P t then some (.isnil neg x)else none
 |_,_=>none
def C1K(P:Program)(t:TypeId):Operand→Bool
 | .const (.slice none 0 0)=>match P.underlying t with
  |some (.slice _)=>true
  |_=>false
 |_=>false
theorem C1L{P:Program}{t:TypeId}{x:Operand}(h:C1K P t x=true):x= .const (.slice none 0 0)∧ ∃e,P.underlying t=some (.slice e):=by
 unfold C1K at h
 split at h
 ·split at h
  ·rename_i e he;exact⟨rfl,e,he⟩
  ·cases h
 ·cases h
def C1I(P:Program)(t:TypeId):Operand→Bool
 | .const .nilFunc=>match P.underlying t with
  |some (.func ..)=>true
  |_=>false
 |_=>false
theorem C1J{P:Program}{t:TypeId}{x:Operand}(h:C1I P t x=true):x= .const .nilFunc∧ ∃a b c,P.underlying t=some (.func a b c):=by
 unfold C1I at h
 split at h
 ·split at h
  ·rename_i a b c he;exact⟨rfl,a,b,c,he⟩
  ·cases h
 ·cases h
def B8b(P:Program)(op:BinOp)(t:TypeId)(x y:Operand):Option AO:=
 match C3 x,B6S op with
 |some x,some neg=>if C1K P t y then some (.eqn false neg x)else if C1I P t y then some (.eqn true neg x)else none
 |_,_=>none
def B1B(P:Program)(op:BinOp)(t:TypeId)(x y:Operand):Option AO:=
 match B2Z P op t x y with
 |some a=>some a
 |none=>
 match B8b P op t x y with
 |some a=>some a
 |none=>
 match C3 x,C3 y with
 | some x,some y=>match D6s op with
  |some l=>some (.sh l x y)
  | none=>match B6S op with
   | some neg=>match C6m P t with
    |some k=>some (.eqp k neg x y)
    | none=>if B9K P t then
      match P0 P 8 t with
      |some e=>if P.eqGuardType P.depth t=false then some (.eqa neg e x y)else none
      |none=>none
     else some (.bin op x y)
   |none=>some (.bin op x y)
 |_,_=>none
def C8X(P:Program)(e:TypeId):Bool:=
 match P.underlying e with
 |some (.int .u8)=>true
 |_=>false
def B9n(P:Program)(d:Option Nat)(a b:TypeId)(x:Operand):Option AO:=
 match P.underlying a,P.underlying b,C3 x with
 |some _,some (.int j),some x=>some (.conv j x)
 |some (.slice e),some .string,some x=>if C8X P e then some (.bst x)else none
 |some (.slice e),some (.slice _),some x=>if a=b∧C8X P e=true then some (.cvr x)else none
 |_,_,_=>none
def B6L(P:Program)(t:TypeId)(x:Operand)(i:Nat):Option AO:=
 match P.underlying t,C3 x with
 | some (.struct fs),some x=>match fs[i]? with
  |some f=>match P.info? f.type with
   |some ti=>if ti.size=0 then none else some (.faddr f.offset x)
   |none=>none
  |none=>none
 |_,_=>none
def C2P(P:Program)(t:TypeId)(x:Operand)(i:Nat):Option AO:=
 match P.underlying t,C3 x with
 |some (.struct fs),some x=>match fs[i]? with
  |some f=>(A9W P f.type).map fun q=> .fld f.offset q.1 q.2 x
  |none=>none
 |_,_=>none
def B6M(P:Program)(t:TypeId)(x i:Operand):Option AO:=
 match P.underlying t,C3 x,C3 i with
 |some (.slice e),some x,some i=>(P.info? e).map fun ti=> .iaddr ti.size x i
 |some (.array n e),some x,some i=>(P.info? e).map fun ti=> .iaddrA n ti.size x i
 |_,_,_=>none
def C2Q(P:Program)(t:TypeId)(x i:Operand):Option AO:=
 match P.underlying t,C3 x,C3 i with
 |some .string,some x,some i=>some (.idx x i)
 |some (.array n e),some x,some i=>match P.info? e,A9W P e with
  |some ti,some q=>some (.idxA n ti.size q.1 q.2 x i)
  |_,_=>none
 |_,_,_=>none
def C2O(P:Program)(t:TypeId)(x:Operand):Option AO:=
 match A1G P t,C3 x with
 |some (_,i),some x=>match i.zero with
  |some z=>(cVs z.cells.toList).map fun zs=> .clr zs x
  |none=>none
 |_,_=>none
def B4L(P:Program)(d:Option Nat)(t:TypeId)(l c:Operand):Option AO:=
 match l,c,d,A1G P t with
 | .tmp a,.tmp b,some d,some (_,i)=>if a=b∧i.bytes≤1024 then
   match i.zero with
   |some z=>match cVs z.cells.toList with
    |some zs=>if zs.length=i.size then some (.mksl d zs (.t a))else none
    |none=>none
   |none=>none
  else none
 | .const (.int .i64 a),.const (.int .i64 b),some d,some (_,i)=>if a=b∧i.bytes≤1024 then
   match i.zero with
   |some z=>match cVs z.cells.toList with
    |some zs=>if zs.length=i.size then some (.mksl d zs (.c (.int .i64 a)))else none
    |none=>none
   |none=>none
  else none
 |_,_,_,_=>none
def C2S(P:Program)(t:TypeId)(x:Operand)(lo hi:Option Operand):Option AO:=
 match P.underlying t,C3 x,A6t lo,A6t hi with
 |some (.slice e),some x,some lo,some hi=>(P.info? e).map fun ti=> .slc ti.size x lo hi
 |some .string,some x,some lo,some hi=>some (.sls x lo hi)
 |_,_,_,_=>none
def C6h(P:Program)(d:Option Nat)(t:TypeId)(x:Operand)(lo hi mx:Option Operand):Option AO:=
 match mx with
 |none=>C2S P t x lo hi
 |some _=>none
def C2R(P:Program)(t:TypeId)(x:Operand):Option AO:=
 match P.underlying t,C3 x with
 |some (.slice _),some x=>some (.len 0 x)
 |some .string,some x=>some (.len 1 x)
 |some (.map _ _),some x=>some (.len 2 x)
 |some (.array n _),some _=>some (.lenc n)
 |_,_=>none
def C6K(P:Program)(u:TypeId):Bool:=
 match P.underlying u with
 |some (.slice _)|some .string=>true
 |_=>false
def B4e(P:Program)(d:Option Nat)(t u:TypeId)(x y:Operand):Option AO:=
 match d,A1G P t,C3 x,C3 y with
 |some d,some (_,i),some x,some y=>match i.zero with
  |some z=>if C6K P u=true∧z.cells.size=i.size∧i.bytes≤1024 then(if D7q.contains (d/10000)then some (.apb (140737488355328/i.bytes) d i.size x y)else some (.app d i.size x y))else none
  |none=>none
 |_,_,_,_=>none
def A4c(P:Program)(d:Option Nat)(b:Builtin)(args:List Operand)(ts:List TypeId):Option AO:=
 match b,args,ts with
 | .len,[x],[t]=>C2R P t x
 | .append,[x,y],[t,u]=>B4e P d t u x y
 | .max,[x,y],_=>match C3 x,C3 y with
  |some x,some y=>some (.mm true [x,y])
  |_,_=>none
 | .min,[x,y],_=>match C3 x,C3 y with
  |some x,some y=>some (.mm false [x,y])
  |_,_=>none
 | .clear,[x],[t]=>C2O P t x
 |_,_,_=>none
def B4K(P:Program)(hint:Bool)(f:Operand)(args:List Operand):Option AO:=
 match R9 args with
 |some xs=>match f with
  | .func g=>if M4 P g then some (if hint&&D0U.any (Nat.beq g)then .pcall g xs else .call g xs)else none
  | .tmp i=>some (.callv (.t i) xs)
  |_=>none
 |none=>none
def B8V(d:Option Nat):AO→AO
 | .bin op (.t i) (.t j)=>if D1o.any (fun q=>d==some q.1&&(i==q.2.1&&j==q.2.2))then .binw op (.t i) (.t j)else .bin op (.t i) (.t j)
 | .bin .mul (.t i) (.c (.int .u32 z))=> .binw .mul (.t i) (.c (.int .u32 z))
 |a=>a
theorem C5L(d:Option Nat)(a:AO):B8V d a=a∨ ∃op x y,a= .bin op x y∧B8V d a= .binw op x y:=by
 unfold B8V
 split
 ·split
  ·exact .inr ⟨_,_,_,rfl,rfl⟩
  ·exact .inl rfl
 ·exact .inr ⟨_,_,_,rfl,rfl⟩
 ·exact .inl rfl
def B8W(d:Option Nat)(op:UnOp):Opd→AO
 | .t i=>match op with
  | .neg=>if D1o.any (fun q=>d==some q.1&&(i==q.2.1&&i==q.2.2))then .negw (.t i)else .un .neg (.t i)
  |o=> .un o (.t i)
 |x=> .un op x
theorem C5M(d:Option Nat)(op:UnOp)(x:Opd):B8W d op x= .un op x∨(op= .neg∧B8W d op x= .negw x):=by
 unfold B8W
 split
 ·split
  ·split
   ·exact .inr ⟨rfl,rfl⟩
   ·exact .inl rfl
  ·exact .inl rfl
 ·exact .inl rfl
def B9o(P:Program)(hint:Bool)(d:Option Nat)(op:Op):Option AO:=
 match op with
 | .move x| .assign x=>(C3 x).map .mov
 | .pick c a b=>match C3 c,C3 a,C3 b with
  |some c,some a,some b=>some (.pick c a b)
  |_,_,_=>none
 | .nilCheck x=>(C3 x).map .nilck
 | .extract x i=>(C3 x).map (.ext i)
 | .unOp op _ x=>(C3 x).map (B8W d op)
 | .alloc e=>A9v P d e
 | .box e x=>B4f P d e x
 | .panic x=>(C3 x).map .pan
 | .build t parts=>B6K P t parts
 | .buildSlice t len parts=>V7 P hint d t len parts
 | .load t x=>B1D P t x
 | .store t x v=>B6N P t x v
 | .binOp op t x y _=>(B1B P op t x y).map (B8V d)
 | .convert a b x=>B9n P d a b x
 | .fieldAddr t x i=>B6L P t x i
 | .field t x i=>C2P P t x i
 | .indexAddr t x i=>B6M P t x i
 | .index t x i=>C2Q P t x i
 | .makeSlice t l c=>B4L P d t l c
 | .slice t x lo hi mx=>C6h P d t x lo hi mx
 | .makeFunc (.func f) first xs=>if first.size=0 then(R9 xs.toList).map (.mkfn f)else none
 | .call c=>match c.callee with
  | .builtin b=>A4c P d b c.args.toList c.argTypes.toList
  | .value f=>B4K P hint f c.args.toList
  |_=>none
 |_=>none
section
variable {P:Program} {k:Res} {w:World} {O:Nat→Prop} {ρ:Nat→Loc} {s:St} {η:Operand→Value} {o:Oper} {ao:AO} {d:Option Nat} {hint:Bool}
theorem B5f{e:TypeId}(h:C8X P e=true):P.underlying e=some (.int .u8):=by
 unfold C8X at h
 split at h
 ·assumption
 ·cases h
theorem B0G{cs:Array Value}{zs:List V}(h:cVs cs.toList=some zs):(∀E:Env,RL E zs cs)∧ ∀(i:Nat) v,cs[i]? =some v→v.oneCell'=true:=by
 refine⟨fun E=> ?_,fun i v hv=> ?_⟩
 ·obtain⟨h1,h2,_⟩:=C2N (E:=E) h
  exact⟨by simpa using h1,fun i c v hc hv=>h2 i c v hc zt⟩
 ·obtain⟨_,_,h3⟩:=C2N (E:=⟨default,fun _=>False,fun _=>False,fun _=>default,0⟩) h
  exact h3 i v zt
theorem J3{t:TypeId}{q:TypeId×TypeInfo}(h:A1G P t=some q):P.underlying t=some (.slice q.1)∧P.info? q.1=some q.2:=by
 unfold A1G at h
 split at h
 ·rename_i e hu
  rw [Option.map_eq_some_iff]at h
  obtain⟨i,hi,rfl⟩:=h
  exact⟨hu,hi⟩
 ·cases h
theorem A0B{g:FuncId}{args:Array Value}(h:M4 P g=true)(w:World):(callFunc g args).run P w= .ok (.enter g args) w:=by
 unfold M4 at h
 split at h
 ·rename_i fn hf
  rw [Bool.and_eq_true]at h
  obtain⟨h1,h2⟩:=h
  have h3:fn.body.isNone=false:=by cases hb:fn.body<;>simp_all
  have h4:(fn.name== "runtime.NumGoroutine")=false:=by simpa using h2
  have h5: ¬(fn.name== "runtime.NumGoroutine")=true:=by rw [h4];simp
  simp only [callFunc,Sem.run_bind,run_program,Result.andThen_ok,hf]
  rw [if_neg h5,if_neg (by rw [h3];simp)]
  rfl
 ·cases h
theorem C7G{f:Operand}{args:Array Operand}{ts:Array TypeId}(ho:o.op= .call {callee:= .value f,args,argTypes:=ts})(hc:B4K P hint f args.toList=some ao)
  (hr:HeapR w O ρ s.n s.h) (he:EvR (A4 w O ρ s.n s.h) s η) (hk:A8 P PK ao s k):C4 P PK k w O ρ s.h s.n ((execOp η o).run P w):=by
 unfold B4K at hc
 split at hc
 ·rename_i xs hxs
  have hargs:=he.evs hxs
  have hmap:(args.map η)=(args.toList.map η).toArray:=by apply Array.ext';simp
  split at hc
  ·rename_i g
   split at hc
   ·rename_i hb
    injection hc with hc
    have hk:A0 P g (xs.map s.ev) s.h s.n k:=by
     subst hc
     split at hk
     ·obtain⟨r,h1,h2⟩:=hk
      exact h1 k h2
     ·exact hk
    have hrun:(execOp η o).run P w= .ok (.enter g (args.map η)) w:=by
     simp [execOp,ho,resolve,Deferred.ofValue,he.2.2.1,invoke,A0B hb]
    rw [hrun]
    refine⟨rfl,_,?_,hk.toP⟩
    rw [hmap];exact hargs
   ·cases hc
  ·rename_i i
   injection hc with hc
   subst hc
   have hf:=he.1 i
   simp only [A8,St.ev]at hk
   generalize E0 s.sl i=vf at*
   unfold A8a at hk
   split at hk
   ·rename_i g cs
    obtain⟨hb,hk⟩:=hk
    obtain⟨vs,hv,hR⟩:=hf.fn_inv
    have hrun:(execOp η o).run P w= .ok (.enter g (args.map η++vs)) w:=by
     simp [execOp,ho,resolve,Deferred.ofValue,hv,invoke,A0B hb]
    rw [hrun]
    refine⟨rfl,_,?_,hk.toP⟩
    rw [hmap]
    refine⟨by simp [hR.1,hargs.1],fun q c u hc hu=> ?_⟩
    rw [List.getElem?_append]at hc
    rw [Array.getElem?_append]at hu
    have hl:=hargs.1
    split at hc
    ·rename_i hq
     rw [if_pos (by rw [←hl];exact hq)]at hu
     exact hargs.2 q c u hc hu
    ·rename_i hq
     rw [if_neg (by rw [←hl];exact hq)]at hu
     rw [hl]at hc
     exact hR.2 _ c u hc hu
   ·rename_i b0 st0
    obtain⟨hst,hv⟩:=hf.yld_inv
    obtain⟨r,h1,h2,h3⟩:=hk w O ρ _ hr hst hargs
    have hrun:(execOp η o).run P w= .ok (.round (ρ st0).blk r.fn ((r.params.zip (args.map η)).foldl (fun tmps (t,a)=>tmps.setIfInBounds t a) r.tmps) r.assign r.body) w:=by
     have hy:=run_yield (P:=P) (args:=args.map η) h1 (by rw [hmap];exact h2)
     simp [execOp,ho,resolve,Deferred.ofValue,hv,invoke,hy]
    rw [hrun,hmap]
    exact⟨rfl,h3⟩
   ·exact XJ
  ·cases hc
 ·cases hc
theorem C0I{b:Builtin}{args:Array Operand}{ts:Array TypeId}(ho:o.op= .call {callee:= .builtin b,args,argTypes:=ts})(hc:A4c P d b args.toList ts.toList=some ao)
  (hr:HeapR w O ρ s.n s.h) (he:EvR (A4 w O ρ s.n s.h) s η) (hk:A8 P PK ao s k):C4 P PK k w O ρ s.h s.n ((execOp η o).run P w):=by
 obtain⟨args⟩:=args
 obtain⟨ts⟩:=ts
 have hc:A4c P d b args ts=some ao:=hc
 unfold A4c at hc
 split at hc
 ·rename_i x t
  unfold C2R at hc
  split at hc<;>first|(cases hc;done)|(injection hc with hc;subst hc)
  ·rename_i hu hx;exact B8J ho hu (.inl ⟨rfl,_,rfl⟩) hx hr he hk
  ·rename_i hu hx;exact B8J ho hu (.inr (.inl ⟨rfl,rfl⟩)) hx hr he hk
  ·rename_i hu hx;exact B8J ho hu (.inr (.inr ⟨rfl,_,_,rfl⟩)) hx hr he hk
  ·rename_i hu hx;exact C7L ho hu hr hk
 ·rename_i x y t u
  unfold B4e at hc
  split at hc
  ·rename_i d' e i x' y' hs hx hy
   obtain⟨h1,h2⟩:=J3 hs
   split at hc
   ·rename_i z hz
    split at hc
    ·rename_i hcond
     obtain⟨hsrc,hzs,hb⟩:=hcond
     unfold C6K at hsrc
     split at hc
     ·injection hc with hc
      subst hc
      have hk:A7U _ _ _ _ _ _ _ _:=hk
      split at hsrc
      ·rename_i e' hu;exact B4r ho h1 hu (.inl ⟨e',rfl⟩) h2 hz hzs (Nat.div_le_self _ _) (Nat.div_mul_le_self _ _) hx hy hr he hk
      ·rename_i hu;exact B4r ho h1 hu (.inr rfl) h2 hz hzs (Nat.div_le_self _ _) (Nat.div_mul_le_self _ _) hx hy hr he hk
      ·cases hsrc
     ·injection hc with hc
      subst hc
      have hk:A7U _ _ _ _ _ _ _ _:=hk
      have hb':137438953472*i.bytes≤140737488355328:=Nat.le_trans (Nat.mul_le_mul_left _ hb) zf
      split at hsrc
      ·rename_i e' hu;exact B4r ho h1 hu (.inl ⟨e',rfl⟩) h2 hz hzs zf hb' hx hy hr he hk
      ·rename_i hu;exact B4r ho h1 hu (.inr rfl) h2 hz hzs zf hb' hx hy hr he hk
      ·cases hsrc
    ·cases hc
   ·cases hc
  ·cases hc
 ·rename_i x y
  split at hc
  ·rename_i x' y' hx hy
   injection hc with hc
   subst hc
   exact C7O (mx:=true) ho hx hy hr he hk
  ·cases hc
 ·rename_i x y
  split at hc
  ·rename_i x' y' hx hy
   injection hc with hc
   subst hc
   exact C7O (mx:=false) ho hx hy hr he hk
  ·cases hc
 ·rename_i x t
  unfold C2O at hc
  split at hc
  ·rename_i e i x' hs hx
   obtain⟨h1,h2⟩:=J3 hs
   split at hc
   ·rename_i z hz
    rw [Option.map_eq_some_iff]at hc
    obtain⟨zs,hzs,rfl⟩:=hc
    obtain⟨hR,hone⟩:=B0G hzs
    exact C9L ho h1 h2 hz hR hone hx hr he hk
   ·cases hc
  ·cases hc
 ·cases hc
theorem B9m{op op':BinOp}{t:TypeId}{x y:Operand}{x' y':Opd}(h:B1B P op t x y=some (.bin op' x' y')):op'=op∧C3 x=some x'∧C3 y=some y':=by
 unfold B1B at h
 split at h
 ·rename_i a hi
  injection h with h
  subst h
  unfold B2Z at hi
  repeat' (split at hi)
  all_goals simp_all
 split at h
 ·rename_i a hi
  injection h with h
  subst h
  unfold B8b at hi
  repeat' (split at hi)
  all_goals simp_all
 repeat' (split at h)
 all_goals simp_all
theorem C5m{op:BinOp}{t t':TypeId}{x y:Operand}(ho:o.op= .binOp op t x y t')(hc:B1B P op t x y=some ao)
  (hr:HeapR w O ρ s.n s.h) (he:EvR (A4 w O ρ s.n s.h) s η) (hk:A8 P PK ao s k):C4 P PK k w O ρ s.h s.n ((execOp η o).run P w):=by
 unfold B1B at hc
 split at hc
 ·rename_i a hi
  injection hc with hc
  subst hc
  unfold B2Z at hi
  split at hi
  ·rename_i x' neg hx hneg
   split at hi
   ·rename_i hb
    injection hi with hi
    subst hi
    rw [Bool.and_eq_true]at hb
    have hop:op=if neg then .neq else .eql:=by cases op<;>simp [B6S]at hneg<;>subst hneg<;>rfl
    have hy:=C1H hb.1
    subst hy
    have h2:=hb.2
    unfold B4k at h2
    split at h2
    ·rename_i ms hu
     exact C5q (neg:=neg) zz hu hx hr he hk (he.2.1 _)
    ·cases h2
   ·cases hi
  ·cases hi
 split at hc
 ·rename_i a hi
  injection hc with hc
  subst hc
  unfold B8b at hi
  split at hi
  ·rename_i x' neg hx hneg
   have hop:op=if neg then .neq else .eql:=by cases op<;>simp [B6S]at hneg<;>subst hneg<;>rfl
   split at hi
   ·rename_i hb
    injection hi with hi
    subst hi
    obtain⟨rfl,e,hu⟩:=C1L hb
    exact C7J (neg:=neg) zz hu hx hr he hk (he.2.1 _)
   ·split at hi
    ·rename_i hb
     injection hi with hi
     subst hi
     obtain⟨rfl,a,b,c,hu⟩:=C1J hb
     exact C7I (neg:=neg) zz hu hx hr he hk (he.2.1 _)
    ·cases hi
  ·cases hi
 split at hc
 ·rename_i x' y' hx hy
  split at hc
  ·rename_i l hl
   injection hc with hc
   subst hc
   have hop:op=if l then .shl else .shr:=by cases op<;>simp [D6s]at hl<;>subst hl<;>rfl
   exact D3k (left:=l) zz hx hy hr he hk
  split at hc
  ·rename_i neg hneg
   have hop:op=if neg then .neq else .eql:=by cases op<;>simp [B6S]at hneg<;>subst hneg<;>rfl
   split at hc
   ·rename_i kd hkd
    injection hc with hc
    subst hc
    unfold C6m at hkd
    split at hkd<;>first|(cases hkd;done)|(injection hkd with hkd;subst hkd)
    ·rename_i e hu;exact B8I (neg:=neg) zz hu (.inl ⟨rfl,_,rfl⟩) hx hy hr he hk
    ·rename_i e u hu;exact B8I (neg:=neg) zz hu (.inr (.inl ⟨rfl,_,_,rfl⟩)) hx hy hr he hk
    ·rename_i hu;exact B8I (neg:=neg) zz hu (.inr (.inr ⟨rfl,rfl⟩)) hx hy hr he hk
   ·split at hc
    ·rename_i hst
     split at hc
     ·rename_i e hsh
      split at hc
      ·rename_i hg
       injection hc with hc
       subst hc
       unfold B9K at hst
       split at hst
       ·rename_i fs hu
        exact C9N (neg:=neg) zz hu hsh hg hx hy hr he hk
       ·cases hst
      ·cases hc
     ·cases hc
    ·injection hc with hc
     subst hc
     exact C3u ho hx hy hr he hk
  ·injection hc with hc
   subst hc
   exact C3u ho hx hy hr he hk
 ·cases hc
theorem C2v{t:TypeId}{len:Nat}{parts:Array (Nat×Operand)}(ho:o.op= .buildSlice t len parts)(hc:V7 P hint d t len parts=some ao)
  (hr:HeapR w O ρ s.n s.h) (he:EvR (A4 w O ρ s.n s.h) s η) (hk:A8 P PK ao s k):C4 P PK k w O ρ s.h s.n ((execOp η o).run P w):=by
 unfold V7 at hc
 split at hc
 ·rename_i e i d' hs
  obtain⟨h1,h2⟩:=J3 hs
  split at hc
  ·rename_i z ys hz hys
   split at hc
   ·rename_i zs hzs
    split at hc
    ·rename_i hcond
     obtain⟨c1,c2,c3,c4⟩:=hcond
     injection hc with hc
     subst hc
     obtain⟨hR,hone⟩:=B0G hzs
     have hsz:z.cells.size=i.size:=by
      exact Kw
     cases hint with
     |true=>exact C5s ho h1 h2 hz hsz hone c2 c3 c4 hys hr he hk
     |false=>exact C5u ho h1 h2 hz hsz hone c2 c3 c4 hys hr he hk
    ·cases hc
   ·cases hc
  ·cases hc
 ·cases hc
theorem C7M{t:TypeId}{l c:Operand}(ho:o.op= .makeSlice t l c)(hc:B4L P d t l c=some ao)
  (hr:HeapR w O ρ s.n s.h) (he:EvR (A4 w O ρ s.n s.h) s η) (hk:A8 P PK ao s k):C4 P PK k w O ρ s.h s.n ((execOp η o).run P w):=by
 unfold B4L at hc
 split at hc
 ·exact Ko
 ·exact Ko
 ·cases hc
theorem B9p(hc:B9o P hint d o.op=some ao)
  (hr:HeapR w O ρ s.n s.h) (he:EvR (A4 w O ρ s.n s.h) s η) (hk:A8 P PK ao s k):C4 P PK k w O ρ s.h s.n ((execOp η o).run P w):=by
 generalize ho:o.op=op at hc
 cases op<;>simp only [B9o]at hc<;>try (cases hc;done)
 case move x=>
  rw [Option.map_eq_some_iff]at hc
  obtain⟨y,hy,rfl⟩:=hc
  exact C0M (.inl ho) hy hr he hk
 case assign x=>
  rw [Option.map_eq_some_iff]at hc
  obtain⟨y,hy,rfl⟩:=hc
  exact C0M (.inr ho) hy hr he hk
 case pick c a b=>
  split at hc
  ·rename_i c' a' b' h1 h2 h3
   injection hc with hc
   subst hc
   exact C7Q ho h1 h2 h3 hr he hk
  ·cases hc
 case nilCheck x=>
  rw [Option.map_eq_some_iff]at hc
  obtain⟨y,hy,rfl⟩:=hc
  exact C5v ho hy hr he hk
 case extract x i=>
  rw [Option.map_eq_some_iff]at hc
  obtain⟨y,hy,rfl⟩:=hc
  exact C0J ho hy hr he hk
 case unOp op t x=>
  rw [Option.map_eq_some_iff]at hc
  obtain⟨y,hy,rfl⟩:=hc
  rcases C5M d op y with e|⟨rfl,e⟩
  ·rw [e]at hk;exact D3l ho hy hr he hk
  ·rw [e]at hk;exact C7P ho hy hr he hk
 case alloc e=>
  unfold A9v at hc
  split at hc
  ·rename_i d' i hi
   split at hc
   ·rename_i z hz
    rw [Option.map_eq_some_iff]at hc
    obtain⟨zv,hzv,rfl⟩:=hc
    exact C5l ho hi hz (D3O hzv) hr hk
   ·cases hc
  ·cases hc
 case box e x=>
  unfold B4f at hc
  split at hc
  ·rename_i d' i x' hi hx
   injection hc with hc
   subst hc
   exact C9J ho hx hr he hk
  ·cases hc
 case panic x=>
  rw [Option.map_eq_some_iff]at hc
  obtain⟨x',hx,rfl⟩:=hc
  exact C9Q ho hx hr he hk
 case build t parts=>
  unfold B6K at hc
  split at hc
  ·rename_i fs i hu hi
   split at hc
   ·rename_i z pl hz hpl
    split at hc
    ·rename_i zs qs hzs hqs
     injection hc with hc
     subst hc
     obtain⟨hR,hone⟩:=B0G hzs
     exact C5n ho hu hpl hi hz hR hone hqs hr he hk
    ·cases hc
   ·cases hc
  ·rename_i len e i hu hi
   split at hc
   ·rename_i z ei hz hei
    split at hc
    ·rename_i zs qs hzs hqs
     injection hc with hc
     subst hc
     obtain⟨hR,hone⟩:=B0G hzs
     exact C2t ho hu hei hi hz hR hone hqs hr he hk
    ·cases hc
   ·cases hc
  ·cases hc
 case buildSlice t len parts=>exact C2v ho hc hr he hk
 case load t x=>
  unfold B1D at hc
  split at hc
  ·rename_i n a x' ht hx
   injection hc with hc
   subst hc
   exact C0K ho ht hx hr he hk
  ·cases hc
 case store t x v=>
  unfold B6N at hc
  split at hc
  ·rename_i i x' v' hi hx hv
   injection hc with hc
   subst hc
   exact C5w ho hi hx hv hr he hk
  ·cases hc
 case binOp op t x y t'=>
  obtain⟨a0,h0,rfl⟩:=Option.map_eq_some_iff.1 hc
  rcases C5L d a0 with e|⟨op',x',y',rfl,e⟩
  ·rw [e]at hk;exact C5m ho h0 hr he hk
  ·rw [e]at hk
   obtain⟨rfl,hx,hy⟩:=B9m h0
   exact C7E ho hx hy hr he hk
 case convert a b x=>
  unfold B9n at hc
  split at hc
  ·rename_i da j x' ha hu hx
   injection hc with hc
   subst hc
   exact C7H ho ha hu hx hr he hk
  ·rename_i e x' ha hu hx
   split at hc
   ·rename_i h8
    injection hc with hc
    subst hc
    exact C9K ho ha (B5f h8) hu hx hr he hk
   ·cases hc
  ·rename_i e e2 x' ha hu hx
   split at hc
   ·rename_i h8
    injection hc with hc
    subst hc
    obtain⟨rfl,h8⟩:=h8
    exact C9M ho ha (B5f h8) hx hr he hk
   ·cases hc
  ·cases hc
 case fieldAddr t x i=>
  unfold B6L at hc
  split at hc
  ·rename_i fs x' hu hx
   split at hc
   ·rename_i f hf
    split at hc
    ·rename_i ti hti
     split at hc
     ·cases hc
     ·rename_i hz
      injection hc with hc
      subst hc
      exact C5o ho hu hf hti hz hx hr he hk
    ·cases hc
   ·cases hc
  ·cases hc
 case field t x i=>
  unfold C2P at hc
  split at hc
  ·rename_i fs x' hu hx
   split at hc
   ·rename_i f hf
    rw [Option.map_eq_some_iff]at hc
    obtain⟨q,hq,rfl⟩:=hc
    exact C9O ho hu hf hq hx hr he hk
   ·cases hc
  ·cases hc
 case indexAddr t x i=>
  unfold B6M at hc
  split at hc<;>try (cases hc;done)
  ·rename_i e x' i' hu hx hi
   rw [Option.map_eq_some_iff]at hc
   obtain⟨ti,hti,rfl⟩:=hc
   exact C5p ho hu hti hx hi hr he hk
  ·rename_i n e x' i' hu hx hi
   rw [Option.map_eq_some_iff]at hc
   obtain⟨ti,hti,rfl⟩:=hc
   exact C2u ho hu hti hx hi hr he hk
 case index t x i=>
  unfold C2Q at hc
  split at hc<;>try (cases hc;done)
  ·rename_i x' i' hu hx hi
   injection hc with hc
   subst hc
   exact C9P ho hu hx hi hr he hk
  ·rename_i n e x' i' hu hx hi
   split at hc
   ·rename_i ti q hti hq
    injection hc with hc
    subst hc
    exact C7K ho hu hti hq hx hi hr he hk
   ·cases hc
 case makeSlice t l c=>exact C7M ho hc hr he hk
 case slice t x lo hi mx=>
  unfold C6h at hc
  cases mx with
  |some m=>cases hc
  | none=>
   simp only at hc
   unfold C2S at hc
   split at hc<;>try (cases hc;done)
   ·rename_i e x' lo' hi' hu hx hlo hhi
    rw [Option.map_eq_some_iff]at hc
    obtain⟨ti,hti,rfl⟩:=hc
    exact C9R ho hu hti hx hlo hhi hr he hk
   ·rename_i x' lo' hi' hu hx hlo hhi
    injection hc with hc
    subst hc
    exact C9S ho hu hx hlo hhi hr he hk
 case makeFunc fn first xs=>
  cases fn<;>try (cases hc;done)
  rename_i f
  simp only at hc
  split at hc
  ·rename_i h0
   rw [Option.map_eq_some_iff]at hc
   obtain⟨ys,hys,rfl⟩:=hc
   have:first= #[]:=Array.eq_empty_of_size_eq_zero h0
   subst this
   exact C7N ho hys hr he hk
  ·cases hc
 case call c=>
  obtain⟨callee,args,ts⟩:=c
  simp only at hc
  cases callee with
  |value f=>exact C7G ho hc hr he hk
  |invoke r m=>cases hc
  |builtin b=>exact C0I ho hc hr he hk
end
end Go.Abs
namespace Go.Abs
variable {PK:R8}
def B7R(P:Program)(d:Deferred):Prop:= ∃fv cap f args,d.target= .fn fv cap∧(∀w,(invoke d.target d.args).run P w= .ok (.enter f args) w)∧
 ∀w,CallsD P f args .returning w fun e u' w'=>(∃v,e= .returned v)∧u'= .returning∧w'=w
def B3D(o:Oper)(d:Nat):Bool:=
 match o.dst,o.guard with
 |some i,none=>Nat.beq i d
 |_,_=>false
theorem A5e{o:Oper}{d:Nat}(h:B3D o d=true):o.dst=some d∧o.guard=none:=by
 unfold B3D at h
 split at h
 ·rename_i i h1 h2;rw [h1,h2,Nat.eq_of_beq_eq_true h];exact⟨rfl,rfl⟩
 ·cases h
def D0h(P:Program)(N:Nat)(o0 o1 o2 o3:Oper)(c:Nat):Bool:=
 match o0.op,o1.op,o2.op,o3.op with
 | .call q,.assign (.tmp a),.move (.tmp b),.binOp .neq t (.tmp e) (.const .nilIface) _=>
  (match q.callee with| .builtin .recover=>true|_=>false)&&(B3D o0 a&&(B3D o1 b&&(B3D o2 e&&(B3D o3 c&&(Nat.blt a N&&(Nat.blt b N&&(Nat.blt e N&&(Nat.blt c N&&B4k P t))))))))
 |_,_,_,_=>false
def B8x(P:Program)(f:FuncId):Bool:=
 match P.funcs[f]? with
 | some fn=>match fn.body with
  |some (.seq (.region _ ops0 false) (.seq (.region _ ops1 false) (.cond (.tmp c) _ .skip)))=>match ops0.toList,ops1.toList with
   | [o0,o1],[o2,o3]=>M4 P f&&(fn.results.isEmpty&&D0h P fn.ntmps o0 o1 o2 o3 c)
   |_,_=>false
  |_=>false
 |none=>false
theorem A2N{o:Oper}{f:Nat→Option Bool}(h:o.guard=none):Region.wanted o f=true:=by simp [Region.wanted,h]
theorem A8g{a:Act}{d:Nat}{v:Value}(h:d<a.tmps.size):(a.put (some d) v).eval (.tmp d)=v:=by
 simp [Act.put,Act.eval,Array.getD,h]
theorem B2I{a:Act}{d:Nat}{v:Value}:(a.put (some d) v).tmps.size=a.tmps.size:=by simp [Act.put]
theorem B5E{P:Program}{ops:Array Oper}{Q:Exit→Act→List Frame→World→Prop}{i:Nat}{rest:List Nat}{a:Act}{cs:List Frame}{w:World}{o:Oper}{v:Value}(ho:ops[i]? =some o)(hg:o.guard=none)(hr:(execOp a.eval o).run P w= .ok (.value v) w)
  (h:wpOpsS P ops Q rest (a.put o.dst v) cs w):wpOpsS P ops Q (i::rest) a cs w:=by
 simp only [wpOpsS,ho,A2N hg,if_true,hr]
 exact h
theorem C7i{P:Program}{ops:Array Oper}{Q:Exit→Act→List Frame→World→Prop}{i:Nat}{rest:List Nat}{a:Act}{cs:List Frame}{w:World}{o:Oper}(ho:ops[i]? =some o)(hg:o.guard=none)(hr:(execOp a.eval o).run P w= .ok .recover w)(hn:recoverD cs=none)
  (h:wpOpsS P ops Q rest (a.put o.dst .nilIface) cs w):wpOpsS P ops Q (i::rest) a cs w:=by
 simp only [wpOpsS,ho,A2N hg,if_true,hr,hn]
 exact h
theorem C7r{P:Program}{f:FuncId}(h:B8x P f=true)(args:Array Value)(w:World):CallsD P f args .returning w fun e u' w'=>(∃v,e= .returned v)∧u'= .returning∧w'=w:=by
 unfold B8x at h
 split at h
 ·rename_i fn hf
  split at h
  ·rename_i i0 ops0 i1 ops1 c x hb
   split at h
   ·rename_i o0 o1 o2 o3 h0 h1
    rw [Bool.and_eq_true,Bool.and_eq_true]at h
    obtain⟨_,hres,h⟩:=h
    have e0:ops0= #[o0,o1]:=Array.ext' h0
    have e1:ops1= #[o2,o3]:=Array.ext' h1
    subst e0;subst e1
    unfold D0h at h
    split at h
    ·rename_i q a b t e u p0 p1 p2 p3
     simp only [Bool.and_eq_true]at h
     obtain⟨hq,d0,d1,d2,d3,n0,n1,n2,n3,ht⟩:=h
     obtain⟨d0,g0⟩:=A5e d0
     obtain⟨d1,g1⟩:=A5e d1
     obtain⟨d2,g2⟩:=A5e d2
     obtain⟨d3,g3⟩:=A5e d3
     have n0:=Nat.le_of_ble_eq_true n0
     have n1:=Nat.le_of_ble_eq_true n1
     have n2:=Nat.le_of_ble_eq_true n2
     have n3:=Nat.le_of_ble_eq_true n3
     refine callsD_of_wpS hf hb fun c₀ cs hu=> ?_
     generalize ha:({tmps:=args++Array.replicate (fn.ntmps-args.size) undef,defers:= []}:Act)=A
     have hsz:fn.ntmps≤A.tmps.size:=by rw [←ha];simp;omega
     have hdf:A.defers= []:=by rw [←ha]
     have hrec:recoverD (c₀::cs)=none:=by simp [recoverD,hu]
     have hcal:q.callee= .builtin .recover:=by
      revert hq
      cases hcc:q.callee with
      |builtin b=>cases b<;>simp
      |value f=>simp
      |invoke r m=>simp
     obtain⟨qc,qa,qt⟩:=q
     subst hcal
     have r0: ∀η:Operand→Value,(execOp η o0).run P w= .ok .recover w:=fun η=>by simp [execOp,p0,resolve,invoke,builtin]
     have r1: ∀η:Operand→Value,(execOp η o1).run P w= .ok (.value (η (.tmp a))) w:=fun η=>by simp [execOp,p1]
     have r2: ∀η:Operand→Value,(execOp η o2).run P w= .ok (.value (η (.tmp b))) w:=fun η=>by simp [execOp,p2]
     have r3: ∀η:Operand→Value,η (.tmp e)= .nilIface→η (.const .nilIface)= .nilIface→(execOp η o3).run P w= .ok (.value (.bool false)) w:=fun η h1 h2=>by
      unfold B4k at ht
      split at ht
      ·rename_i ms hm
       have:=B2D (P:=P) (w:=w) hm
       simp [execOp,p3,h1,h2,eqGuard,binOp,this]
      ·cases ht
     refine wpS_seq (wpS_region ?_)
     refine C7i (o:=o0) rfl g0 (r0 _) hrec (B5E (o:=o1) rfl g1 (r1 _) ?_)
     rw [d0,d1,A8g zd]
     generalize hA1:(A.put (some a) Value.nilIface).put (some b) Value.nilIface=A1
     have hs1:fn.ntmps≤A1.tmps.size:=by rw [←hA1,B2I,B2I];exact hsz
     have hd1:A1.defers= []:=by rw [←hA1];exact hdf
     have hb1:A1.eval (.tmp b)= .nilIface:=by rw [←hA1];exact A8g (by rw [B2I];omega)
     show (Code.seq _ _).wpS P _ A1 (c₀::cs) w
     refine wpS_seq (wpS_region ?_)
     refine B5E (o:=o2) rfl g2 (r2 _) ?_
     rw [d2,hb1]
     refine B5E (o:=o3) rfl g3 (r3 _ (A8g zd) rfl) ?_
     rw [d3]
     show (Code.cond _ _ _).wpS P _ _ (c₀::cs) w
     refine wpS_cond (t:=false) (A8g (by rw [B2I];omega)) ?_
     refine wpS_of_wp (wp_skip ?_)
     refine⟨hd1,.returning,by rw [←hu],?_⟩
     have hr0:fn.results= #[]:=by simpa using hres
     exact⟨.tuple #[],by simp [results,hr0],⟨_,rfl⟩,rfl,rfl⟩
    ·cases h
   ·cases h
  ·cases h
 ·cases h
def A6O(P:Program)(bs:Option Nat)(E:Env)(ds:List Deferred):Prop:=
 (bs=none→ds= [])∧ds.Pairwise (fun d d'=>d=d'→B7R P d)∧ ∀d∈ds,B7R P d∨ ∃r,d={target:= .collected r,args:= #[]}∧(∀b,bs=some b→b≤r)∧ ¬E.own r∧E.w.heap[r]? =some (.deferred (some []))
theorem A6O.nil{P:Program}{bs:Option Nat}{E:Env}:A6O P bs E []:=⟨fun _=>rfl,List.Pairwise.nil,fun d hd=>by cases hd⟩
theorem A6O.mono{P:Program}{bs:Option Nat}{E E':Env}{ds:List Deferred}(hx:Ext E E')(h:A6O P bs E ds):A6O P bs E' ds:=by
 refine⟨h.1,h.2.1,fun d hd=> ?_⟩
 rcases h.2.2 d hd with hq|⟨r,h1,h2,h3,h4⟩
 ·exact .inl hq
 obtain⟨q1,q2⟩:=hx.blk r (Array.getElem?_eq_some_iff.1 h4).1 h3
 exact .inr ⟨r,h1,h2,q2,q1.trans h4⟩
theorem A6O.push{P:Program}{bs:Option Nat}{E:Env}{ds:List Deferred}{d:Deferred}(hb:bs≠none)(h:A6O P bs E ds)(hq:B7R P d):A6O P bs E (d::ds):=
 ⟨fun e=>(hb e).elim,List.pairwise_cons.2 ⟨fun _ _ _=>hq,h.2.1⟩,fun x hx=>(List.mem_cons.1 hx).elim (fun e=> .inl (e ▸ hq)) (h.2.2 x)⟩
structure Sim(P:Program)(bs:Option Nat)(N:Nat)(E:Env)(sl:List (Nat×V))(a:Act):Prop where
 size:a.tmps.size=N
 base: ∀b,bs=some b→b≤E.w.heap.size
 defers:A6O P bs E a.defers
 slot: ∀i,R E (E0 sl i) (a.tmps.getD i Go.undef)
theorem L2(sl:List (Nat×V))(i:Nat)(v:V)(j:Nat):E0 (G0 sl i v) j=if i=j then v else E0 sl j:=by
 induction sl with
 | nil=>
  simp only [G0,E0]
  by_cases h:i=j
  ·subst h;simp
  ·rw [if_neg h]
   have:Nat.beq i j=false:=by cases hb:Nat.beq i j with
    |false=>rfl
    |true=>exact(h (Nat.eq_of_beq_eq_true hb)).elim
   rw [this];rfl
 | cons p r ih=>
  simp only [G0]
  cases hb:Nat.beq p.1 i with
  | true=>
   have hp:=Nat.eq_of_beq_eq_true hb
   simp only [cond_true,E0]
   by_cases h:i=j
   ·subst h;simp
   ·rw [if_neg h]
    have h1:Nat.beq i j=false:=by cases hb':Nat.beq i j with
     |false=>rfl
     |true=>exact(h (Nat.eq_of_beq_eq_true hb')).elim
    rw [h1,hp,h1];rfl
  | false=>
   rw [cond_false]
   cases hlt:Nat.blt p.1 i with
   | true=>
    rw [cond_true]
    simp only [E0]
    by_cases h:i=j
    ·subst h;simp
    ·rw [if_neg h]
     have h1:Nat.beq i j=false:=by cases hb':Nat.beq i j with
      |false=>rfl
      |true=>exact(h (Nat.eq_of_beq_eq_true hb')).elim
     rw [h1];rfl
   |false=>
   simp only [cond_false,E0,ih]
   cases hb':Nat.beq p.1 j with
   |true=>
    have hp:=Nat.eq_of_beq_eq_true hb'
    have:i≠j:=fun e=>by rw [←hp]at e;rw [e,Nat.beq_refl]at hb;cases hb
    simp [this]
   |false=>rfl
theorem Sim.evr{P:Program}{bs:Option Nat}{N:Nat}{E:Env}{s:St}{a:Act}(h:Sim P bs N E s.sl a)(hg:GlR E):EvR E s a.eval:=⟨h.slot,fun _=>rfl,fun _=>rfl,fun _=>rfl,hg⟩
theorem Sim.mono{P:Program}{bs:Option Nat}{N:Nat}{E E':Env}{sl:List (Nat×V)}{a:Act}(h:Sim P bs N E sl a)(hx:Ext E E'):Sim P bs N E' sl a:=⟨h.size,fun b e=>Nat.le_trans (h.base b e) hx.size,h.defers.mono hx,fun i=>(h.slot i).mono hx⟩
theorem Sim.set{P:Program}{bs:Option Nat}{N:Nat}{E:Env}{sl:List (Nat×V)}{a:Act}(h:Sim P bs N E sl a){d:Nat}{v:V}{x:Value}(hd:d<N)(hR:R E v x):Sim P bs N E (G0 sl d v) (a.put (some d) x):=by
 refine⟨by simp [Act.put,h.size],h.base,h.defers,fun i=> ?_⟩
 rw [L2]
 have hs:=h.size
 by_cases hi:d=i
 ·subst hi
  rw [if_pos rfl]
  have:(a.put (some d) x).tmps.getD d Go.undef=x:=by simp [Act.put,Array.getD,hs,hd]
  rw [this];exact hR
 ·rw [if_neg hi]
  have:(a.put (some d) x).tmps.getD i Go.undef=a.tmps.getD i Go.undef:=by
   simp only [Act.put,Array.getD_eq_getD_getElem?,Array.getElem?_setIfInBounds]
   rw [if_neg hi]
  rw [this];exact h.slot i
theorem Sim.know{P:Program}{bs:Option Nat}{N:Nat}{E:Env}{sl:List (Nat×V)}{a:Act}(h:Sim P bs N E sl a){d:Nat}{b:Bool}(hd:E0 sl d= .bool b):Sim P bs N E (G0 sl d (.bool b)) a:=by
 refine⟨h.size,h.base,h.defers,fun i=> ?_⟩
 rw [L2]
 by_cases hi:d=i
 ·subst hi;rw [if_pos rfl,←hd];exact h.slot d
 ·rw [if_neg hi];exact h.slot i
def B6P(N:Nat):Option Nat→Bool
 |none=>true
 |some d=>Nat.blt d N
def D0q(ops:Array Oper):Option (Nat×Bool)→Option (Option (Nat×Bool))
 |none=>some none
 |some (j,want)=>match (ops[j]?).bind (·.dst)with
  |some d=>some (some (d,want))
  |none=>none
def C6L(d:Option Nat):Operand→Bool
 | .tmp i=>d==some i
 |_=>false
def D3G:Operand→Bool
 | .func g=>D3c.any (Nat.beq g)
 |_=>false
def C4R:Operand→Bool
 | .func g=>D7s.any (Nat.beq g)
 |_=>false
def D2o(ops:Array Oper)(d:Option Nat):Bool:=ops.toList.any fun o=>match o.op with
 | .call {callee:= .builtin .append,args,.. }=>(args.toList.drop 1).any (C6L d)
 | .call {callee:= .value f,args,.. }=>(!(Nat.beq args.size 1)||C4R f)&& !(D3G f)&&args.toList.any (C6L d)
 |_=>false
def C0p(o:Oper):Bool:=match o.op with
 | .call {callee:= .value (.func g),.. }=>D0U.any (Nat.beq g)
 |_=>false
def C8Q(ops:Array Oper)(o:Oper):Bool:=bif C0p o then Nat.ble 3 (ops.toList.countP C0p)else D2o ops o.dst
def D6d(ops:Array Oper)(d:Option Nat):Bool:=ops.toList.any fun o=>match o.op with
 | .convert a b x=>Nat.beq a b&&C6L d x
 |_=>false
def B4h(P:Program)(d:Option Nat)(op:Op):Option AO:=
 match op with
 | .buildSlice t len parts=>match V7 P false d t len parts with
  |some (.mkrow nm 1 ys)=>some (.mkraw nm ys)
  |_=>none
 |_=>none
def B4g(P:Program)(d:Option Nat)(op:Op):Option AO:=
 bif (match d with|some d=>D2r.any (Nat.beq d)|none=>false)then match op with
 | .box e x=>match B4f P d e x with
  |some (.box _ sz x')=>some (.boxi sz x')
  |_=>none
 | .load t x=>match B1D P t x with
  |some (.load n a x')=>some (.loadi n a x')
  |_=>none
 |_=>none else none
def B4i(P:Program)(d:Option Nat)(op:Op):Option AO:=
 bif (match d with|some d=>D3I.any (Nat.beq d)|none=>false)then match op with
 | .alloc e=>match A9v P d e with
  |some (.box nm sz (.c zv))=>some (.boxt e nm sz (.c zv))
  |_=>none
 | .call c=>match c.callee,c.args.toList,c.argTypes.toList with
  | .builtin .append,[x,y],[t,u]=>match A1G P t,B4e P d t u x y with
   |some (e,i),some (.app nm sz x' y')=>if 137438953472*i.bytes≤140737488355328 then some (.appt e nm sz x' y')else none
   |_,_=>none
  |_,_,_=>none
 |_=>none else B4g P d op
def B9k(P:Program)(raw hint:Bool)(d:Option Nat)(op:Op):Option AO:=
 match bif raw then B4h P d op else B4i P d op with
 |some a=>some a
 |none=>B9o P hint d op
def B8c(P:Program)(o:Oper):Option AO:=
 match o.op,o.guard with
 | .call {callee:= .value (.func g),args,.. },none=>bif M4 P g&&D6o.any (Nat.beq g)then(R9 args.toList).map (AO.callp g)else none
 |_,_=>none
def B9l(P:Program)(B N:Nat)(ops:Array Oper)(o:Oper):Option AI:=
 match B8c P o with
 |some ao=>bif B6P N o.dst then some ⟨o.dst,none,ao⟩else none
 |none=>match D0q ops o.guard with
 |some g=>bif B6P N o.dst then some ⟨o.dst,g,(B9k P (D6d ops o.dst) (C8Q ops o) (o.dst.map fun d=>B+d) o.op).getD .bad⟩else none
 |none=>none
theorem C4d{P:Program}{k:Res}{w:World}{O:Nat→Prop}{ρ:Nat→Loc}{s:St}{η:Operand→Value}{o:Oper}{hint:Bool}{d:Option Nat}(hr:HeapR w O ρ s.n s.h)(he:EvR (A4 w O ρ s.n s.h) s η)
  (hk:A8 P PK ((B9o P hint d o.op).getD .bad) s k):C4 P PK k w O ρ s.h s.n ((execOp η o).run P w):=by
 cases hc:B9o P hint d o.op with
 |none=>rw [hc]at hk;exact hk.elim
 |some ao=>rw [hc]at hk;exact B9p hc hr he hk
theorem B6m{P:Program}{k:Res}{w:World}{O:Nat→Prop}{ρ:Nat→Loc}{s:St}{η:Operand→Value}{o:Oper}{d:Option Nat}{ao:AO}(hc:B4h P d o.op=some ao)(hr:HeapR w O ρ s.n s.h)(he:EvR (A4 w O ρ s.n s.h) s η)
  (hk:A8 P PK ao s k):C4 P PK k w O ρ s.h s.n ((execOp η o).run P w):=by
 unfold B4h at hc
 split at hc
 ·rename_i t len parts ho
  split at hc
  ·rename_i nm ys hb
   injection hc with hc
   subst hc
   unfold V7 at hb
   split at hb
   ·rename_i e i d' hs
    obtain⟨h1,h2⟩:=J3 hs
    split at hb
    ·rename_i z ys' hz hys
     split at hb
     ·rename_i zs hzs
      split at hb
      ·rename_i hcond
       obtain⟨c1,c2,c3,c4⟩:=hcond
       injection hb with hb
       simp only [Bool.false_eq_true,if_false]at hb
       injection hb with e1 e2 e3
       subst e1;subst e3
       obtain⟨hR,hone⟩:=B0G hzs
       have hsz:z.cells.size=i.size:=by
        exact Kw
       exact C5t ho h1 h2 hz hsz hone c2 c3 c4 hys e2 hr he hk
      ·cases hb
     ·cases hb
    ·cases hb
   ·cases hb
  ·cases hc
 ·cases hc
theorem B6l{P:Program}{k:Res}{w:World}{O:Nat→Prop}{ρ:Nat→Loc}{s:St}{η:Operand→Value}{o:Oper}{d:Option Nat}{ao:AO}(hc:B4g P d o.op=some ao)(hr:HeapR w O ρ s.n s.h)(he:EvR (A4 w O ρ s.n s.h) s η)
  (hk:A8 P PK ao s k):C4 P PK k w O ρ s.h s.n ((execOp η o).run P w):=by
 unfold B4g at hc
 cases hb:(match d with|some d=>D2r.any (Nat.beq d)|none=>false)with
 |false=>rw [hb]at hc;cases hc
 | true=>
  rw [hb,cond_true]at hc
  split at hc
  ·rename_i e x ho
   split at hc
   ·rename_i nm sz x' hb
    injection hc with hc
    subst hc
    unfold B4f at hb
    split at hb
    ·rename_i d' i x2 hi hx _
     injection hb with hb
     injection hb with e1 e2 e3
     subst e3
     exact C7F ho hx hr he hk
    ·cases hb
   ·cases hc
  ·rename_i t x ho
   split at hc
   ·rename_i n a x' hb
    injection hc with hc
    subst hc
    unfold B1D at hb
    split at hb
    ·rename_i n2 a2 x2 ht hx
     injection hb with hb
     injection hb with e1 e2 e3
     subst e1;subst e2;subst e3
     exact C5r ho ht hx hr he hk
    ·cases hb
   ·cases hc
  ·cases hc
theorem B6n{P:Program}{k:Res}{w:World}{O:Nat→Prop}{ρ:Nat→Loc}{s:St}{η:Operand→Value}{o:Oper}{d:Option Nat}{ao:AO}(hc:B4i P d o.op=some ao)(hr:HeapR w O ρ s.n s.h)(he:EvR (A4 w O ρ s.n s.h) s η)
  (hk:A8 P PK ao s k):C4 P PK k w O ρ s.h s.n ((execOp η o).run P w):=by
 unfold B4i at hc
 cases hb:(match d with|some d=>D3I.any (Nat.beq d)|none=>false)with
 |false=>rw [hb]at hc;exact B6l hc hr he hk
 | true =>
  rw [hb,cond_true]at hc
  clear hb
  split at hc
  ·rename_i e ho
   split at hc
   ·rename_i nm sz zv hb
    injection hc with hc
    subst hc
    unfold A9v at hb
    split at hb
    ·rename_i d' i hi
     split at hb
     ·rename_i z hz
      rw [Option.map_eq_some_iff]at hb
      obtain⟨zv',hzv,hb⟩:=hb
      injection hb with e1 e2 e3
      injection e3 with e3
      subst e3
      exact C2s ho hi hz (D3O hzv) hr hk
     ·cases hb
    ·cases hb
   ·cases hc
  ·rename_i c ho
   obtain⟨cal,⟨args⟩,⟨ts⟩⟩:=c
   simp only at hc
   split at hc
   ·rename_i x y t u
    split at hc
    ·rename_i e i nm sz x' y' hs hb
     split at hc
     ·rename_i hby
      injection hc with hc
      subst hc
      obtain⟨h1,h2⟩:=J3 hs
      unfold B4e at hb
      rw [hs]at hb
      split at hb
      ·rename_i d' _ e' i' x2 y2 hsi hx hy
       injection hsi with hsi
       injection hsi with hs1 hs2
       subst hs1;subst hs2
       split at hb
       ·rename_i z hz
        split at hb
        ·rename_i hcond
         obtain⟨c1,c2,c3⟩:=hcond
         split at hb
         ·cases hb
         ·injection hb with hb
          injection hb with e1 e2 e3 e4
          subst e2;subst e3;subst e4
          obtain⟨du,hu,hd⟩: ∃du,P.underlying u=some du∧((∃e',du= .slice e')∨du= .string):=by
           unfold C6K at c1
           split at c1
           ·rename_i e' hu;exact⟨_,hu,.inl ⟨e',rfl⟩⟩
           ·rename_i hu;exact⟨_,hu,.inr rfl⟩
           ·cases c1
          exact C7D ho h1 hu hd h2 hz c2 hby hx hy hr he hk
        ·cases hb
       ·cases hb
      ·cases hb
     ·cases hc
    ·cases hc
   ·cases hc
  ·cases hc
theorem B6J{P:Program}{k:Res}{w:World}{O:Nat→Prop}{ρ:Nat→Loc}{s:St}{η:Operand→Value}{o:Oper}{raw hint:Bool}{d:Option Nat}(hr:HeapR w O ρ s.n s.h)(he:EvR (A4 w O ρ s.n s.h) s η)
  (hk:A8 P PK ((B9k P raw hint d o.op).getD .bad) s k):C4 P PK k w O ρ s.h s.n ((execOp η o).run P w):=by
 unfold B9k at hk
 split at hk
 ·rename_i a ha
  cases raw with
  |true=>exact B6m ha hr he hk
  |false=>exact B6n ha hr he hk
 ·exact C4d hr he hk
def A7K(P:Program)(PK:R8):List AI→St→(St→Prop)→Prop
 | [],s,K=>K s
 |i::r,s,K=>H7 P PK i s fun s'=>A7K P PK r s' K
section
variable {P:Program} {bs:Option Nat} {B N:Nat} {O:Nat→Prop} {ops:Array Oper} {Q:Exit→Act→World→Prop} {ro:Option Nat}
def Fr(ro:Option Nat):Fence:={Fence.wide with round:=ro}
theorem C1m{n:Nat}{f:FuncId}{args:Array Value}{w:World}{R:Ending→World→Prop}(h:Calls P f args w R):CallsIn (Fr ro) n P f args w R:=
 have h':CallsIn Fence.wide n P f args w R:=callsIn_wide.2 h
 h'
theorem C2m{n:Nat}{l:Nat}{f:FuncId}{tmps:Array Value}{x y:Code}{w:World}{R:Ending→World→Prop}(h:RoundIn Fence.wide n P l f tmps x y w R):RoundIn (Fr ro) n P l f tmps x y w R:=h
theorem A9Y{o:Oper}{k:Res}{s:St}{raw hint:Bool}{d:Option Nat}(hk:A8 P PK ((B9k P raw hint d o.op).getD .bad) s k): ∀c,o.op≠ .defer c:=by
 intro c hc
 rw [hc]at hk
 unfold B9k B4h B4i B4g at hk
 cases raw with
 |true=>exact hk
 | false=>
  cases hb0:(match d with|some d=>D3I.any (Nat.beq d)|none=>false)with
  |true=>rw [hb0]at hk;exact hk
  |false=>
   rw [hb0]at hk
   cases hb:(match d with|some d=>D2r.any (Nat.beq d)|none=>false)with
   |true=>rw [hb]at hk;exact hk
   |false=>rw [hb]at hk;exact hk
structure PutsOf(ds:Nat→Prop)(a a':Act):Prop where
 defers:a'.defers=a.defers
 size:a'.tmps.size=a.tmps.size
 same: ∀i,¬ds i→a'.tmps.getD i Go.undef=a.tmps.getD i Go.undef
theorem PutsOf.refl(ds:Nat→Prop)(a:Act):PutsOf ds a a:=⟨rfl,rfl,fun _ _=>rfl⟩
theorem PutsOf.put{ds:Nat→Prop}{a:Act}{d:Option Nat}{v:Value}(h: ∀i,d=some i→ds i):PutsOf ds a (a.put d v):=by
 cases d with
 |none=>exact .refl _ _
 |some d=>
  refine⟨rfl,by simp [Act.put],fun i hi=> ?_⟩
  have hne:d≠i:=fun e=>hi (h i zm)
  simp only [Act.put,Array.getD_eq_getD_getElem?,Array.getElem?_setIfInBounds]
  rw [if_neg hne]
theorem PutsOf.trans{ds:Nat→Prop}{a a' a2:Act}(h1:PutsOf ds a a')(h2:PutsOf ds a' a2):PutsOf ds a a2:=⟨h2.1.trans h1.1,h2.2.trans h1.2,fun i hi=>(h2.3 i hi).trans (h1.3 i hi)⟩
theorem PutsOf.weak{ds ds':Nat→Prop}{a a':Act}(h:PutsOf ds a a')(hd: ∀i,ds i→ds' i):PutsOf ds' a a':=⟨h.1,h.2,fun i hi=>h.3 i fun h=>hi (hd i h)⟩
theorem A5f{o:Oper}{a a':Act}{w w':World}{ρ ρ':Nat→Loc}{s:St}{sl:List (Nat×V)}{K:St→Prop}{next:Act→World→Prop}{v:Value}{r:V}{h':A2}{n':Nat}(hd:B6P N o.dst=true)(hs:Sim P bs N (A4 w O ρ s.n s.h) sl a)
  (hnext: ∀ρ' (s':St) a' w',HeapR w' O ρ' s'.n s'.h→Sim P bs N (A4 w' O ρ' s'.n s'.h) s'.sl a'→Ext (A4 w O ρ s.n s.h) (A4 w' O ρ' s'.n s'.h)→PutsOf (fun i=>o.dst=some i) a a'→K s'→next a' w')
  (hk:fin o.dst sl K r h' n') (hr:HeapR w' O ρ' n' h') (hR:R (A4 w' O ρ' n' h') r v) (hx:Ext (A4 w O ρ s.n s.h) (A4 w' O ρ' n' h')) (ha:a'=a.put o.dst v):next a' w':=by
 subst ha
 have hs':=hs.mono hx
 unfold fin at hk
 cases hdst:o.dst with
 |none=>
  rw [hdst]at hk
  exact hnext ρ' ⟨sl,h',n'⟩ _ w' hr hs' hx (.refl _ _) hk
 |some d=>
  rw [hdst]at hk hd
  exact hnext ρ' ⟨G0 sl d r,h',n'⟩ _ w' hr (hs'.set (Nat.le_of_ble_eq_true hd) hR) hx (.put fun i e=>by rw [hdst];exact e) hk
theorem C5e{o:Oper}{ao:AO}(hc:B8c P o=some ao){w:World}{E:Env}{s:St}{η:Operand→Value}(he:EvR E s η):
  ∃g xs args,ao= .callp g xs∧o.guard=none∧(∀c,o.op≠ .defer c)∧(execOp η o).run P w= .ok (.enter g args) w∧RL E (xs.map s.ev) args:=by
 unfold B8c at hc
 split at hc
 ·rename_i g args ts ho hg
  cases hb:M4 P g&&D6o.any (Nat.beq g)with
  |false=>rw [hb]at hc;cases hc
  |true=>
   rw [hb,cond_true,Option.map_eq_some_iff]at hc
   obtain⟨xs,hxs,rfl⟩:=hc
   have hb:=(Bool.and_eq_true _ _ ▸ hb).1
   have hargs:=he.evs hxs
   have hmap:(args.map η)=(args.toList.map η).toArray:=by apply Array.ext';simp
   refine⟨g,xs,args.map η,rfl,hg,(fun c h=>by rw [ho]at h;cases h),?_,?_⟩
   ·simp [execOp,ho,resolve,Deferred.ofValue,he.2.2.1,invoke,A0B hb]
   ·rw [hmap];exact hargs
 ·cases hc
theorem B8i{o:Oper}{a:Act}{w:World}{ρ:Nat→Loc}{s:St}{sl:List (Nat×V)}{K:St→Prop}{next:Act→World→Prop}(hnd: ∀c,o.op≠ .defer c)(hd:B6P N o.dst=true)(hr:HeapR w O ρ s.n s.h)(hs:Sim P bs N (A4 w O ρ s.n s.h) sl a)
  (hnext: ∀ρ' (s':St) a' w',HeapR w' O ρ' s'.n s'.h→Sim P bs N (A4 w' O ρ' s'.n s'.h) s'.sl a'→Ext (A4 w O ρ s.n s.h) (A4 w' O ρ' s'.n s'.h)→PutsOf (fun i=>o.dst=some i) a a'→K s'→next a' w')
  (hpan: ∀x ρ' h' n' a' w',HeapR w' O ρ' n' h'→Ext (A4 w O ρ s.n s.h) (A4 w' O ρ' n' h')→(bs=none→a'.defers= [])→PutsOf (fun i=>o.dst=some i) a a'→PK x h' n'→Q (.panic [{v:=x,recovered:=false}]) a' w')
  (h:C4 P PK (fin o.dst sl K) w O ρ s.h s.n ((execOp a.eval o).run P w)):o.wpIn (Fr ro) 0 P a w next Q:=by
 refine⟨fun _ _=>trivial,?_⟩
 rw [Oper.semAt_eq _ _ _ hnd]
 generalize (execOp a.eval o).run P w=res at h
 unfold C4 at h
 split at h
 ·obtain⟨r,h',n',ρ',hk,hr',hR,hx⟩:=h
  exact Kj
 ·obtain⟨r,h',n',ρ',hk,hr',hR,hx⟩:=h
  exact Kj
 ·obtain⟨rfl,as,hRL,hcall⟩:=h
  refine⟨fun h=>by simp [Fr,Fence.wide]at h,C1m ((hcall _ O ρ _ hr hRL).mono ?_)⟩
  rintro e w' (⟨v,r,h',n',ρ',rfl,hk,hr',hR,hx⟩|⟨x,h',n',ρ',rfl,hk,hr',hx⟩)
  ·exact Kj
  ·exact hpan x ρ' h' n' a w' hr' hx hs.defers.1 (.refl _ _) hk
 ·obtain⟨rfl,h⟩:=h
  refine⟨fun h=>by simp [Fr,Fence.wide]at h,C2m (h.mono ?_)⟩
  rintro e w' ⟨v,r,h',n',ρ',rfl,hk,hr',hR,hx⟩
  exact Kj
 ·obtain⟨rfl,hk⟩:=h
  exact hpan _ ρ s.h s.n a _ hr (Ext.refl _) hs.defers.1 (.refl _ _) hk
 ·exact h.elim
theorem C0P{o:Oper}{i:AI}{a:Act}{w:World}{ρ:Nat→Loc}{s:St}{K:St→Prop}{next:Act→World→Prop}(hc:B9l P B N ops o=some i)(hr:HeapR w O ρ s.n s.h)(hs:Sim P bs N (A4 w O ρ s.n s.h) s.sl a)
  (hk:H7 P PK i s K)
  (hpan: ∀x ρ' h' n' a' w',HeapR w' O ρ' n' h'→Ext (A4 w O ρ s.n s.h) (A4 w' O ρ' n' h')→(bs=none→a'.defers= [])→PutsOf (fun i=>o.dst=some i) a a'→PK x h' n'→Q (.panic [{v:=x,recovered:=false}]) a' w')
  (hnext: ∀ρ' (s':St) a' w',HeapR w' O ρ' s'.n s'.h→Sim P bs N (A4 w' O ρ' s'.n s'.h) s'.sl a'→Ext (A4 w O ρ s.n s.h) (A4 w' O ρ' s'.n s'.h)→PutsOf (fun i=>o.dst=some i) a a'→K s'→next a' w'):
  if Region.wanted o (yielded ops a.tmps)then o.wpIn (Fr ro) 0 P a w next Q else next (a.put o.dst Go.undef) w:=by
 unfold B9l at hc
 split at hc
 ·rename_i ao hcp
  cases hd:B6P N o.dst with
  |false=>rw [hd]at hc;cases hc
  |true=>
   rw [hd,cond_true]at hc
   injection hc with hc
   subst hc
   obtain⟨g,xs,args,rfl,hg,hnd,hrun,hRL⟩:=C5e (w:=w) hcp (hs.evr hr.gl)
   simp only [H7,A8]at hk
   have hw:Region.wanted o (yielded ops a.tmps)=true:=by simp [Region.wanted,hg]
   rw [hw,if_pos rfl]
   refine B8i hnd hd hr hs hnext hpan ?_
   rw [hrun]
   exact⟨rfl,_,hRL,hk⟩
 split at hc
 ·rename_i g hg
  cases hd:B6P N o.dst with
  |false=>rw [hd]at hc;cases hc
  | true=>
   rw [hd,cond_true]at hc
   injection hc with hc
   subst hc
   unfold D0q at hg
   cases hgd:o.guard with
   |none=>
    rw [hgd]at hg
    injection hg with hg
    subst hg
    simp only [H7]at hk
    have hw:Region.wanted o (yielded ops a.tmps)=true:=by simp [Region.wanted,hgd]
    rw [hw,if_pos rfl]
    exact B8i (A9Y hk) hd hr hs hnext hpan (B6J hr (hs.evr hr.gl) hk)
   | some q=>
    obtain⟨j,want⟩:=q
    rw [hgd]at hg
    simp only at hg
    split at hg
    ·rename_i dj hdj
     injection hg with hg
     subst hg
     simp only [H7,stepG]at hk
     split at hk
     ·rename_i b hb
      have hslot:=hs.slot dj
      rw [hb]at hslot
      have hv:=hslot.bool_inv
      have hlt:dj<a.tmps.size:=by
       rcases Nat.lt_or_ge dj a.tmps.size with h|h
       ·exact h
       ·rw [Array.getD_eq_getD_getElem?,Array.getElem?_eq_none h]at hv;cases hv
      have hget:a.tmps[dj]? =some (.bool b):=by
       rw [Array.getD_eq_getD_getElem?]at hv
       simp only [Array.getElem?_eq_getElem hlt]at hv⊢
       simpa using hv
      have hy:yielded ops a.tmps j=some b:=by simp [yielded,hdj,hget]
      have hw:Region.wanted o (yielded ops a.tmps)=(b==want):=by simp [Region.wanted,hgd,hy]
      rw [hw]
      by_cases hbw:b=want
      ·subst hbw
       rw [if_pos zg]
       have hs1:=hs.know hb
       exact B8i (s:=⟨G0 s.sl dj (.bool b),s.h,s.n⟩) (A9Y (hk.1 rfl)) hd hr hs1 hnext hpan (B6J (s:=⟨G0 s.sl dj (.bool b),s.h,s.n⟩) hr (Sim.evr (s:=⟨G0 s.sl dj (.bool b),s.h,s.n⟩) hs1 hr.gl) (hk.1 rfl))
      ·rw [if_neg (by simpa using hbw)]
       have hbw':b= !want:=by cases b<;>cases want<;>simp_all
       have hs1:=hs.know hb
       have hk2:=hk.2 hbw'
       rw [←hbw']at hk2
       exact A5f hd hs1 hnext hk2 hr (.cst _) (Ext.refl _) rfl
     ·rename_i u hu
      obtain⟨hnb,hk2⟩:=hk
      have hslot:=hs.slot dj
      rw [hu]at hslot
      have hv:a.tmps.getD dj Go.undef=u:=hslot.cst_inv
      have hy:yielded ops a.tmps j=none:=by
       simp only [yielded,hdj]
       rw [Array.getD_eq_getD_getElem?]at hv
       cases hq:a.tmps[dj]? with
       |none=>simp [hq]
       |some x=>
        rw [hq]at hv
        simp only [Option.getD_some]at hv
        subst hv
        cases x<;>first|(cases hnb;done)|simp [hq]
      have hw:Region.wanted o (yielded ops a.tmps)=false:=by simp [Region.wanted,hgd,hy]
      rw [hw,if_neg zg]
      exact A5f hd hs hnext hk2 hr (.cst _) (Ext.refl _) rfl
     ·exact XJ
    ·cases hg
 ·cases hc
theorem B3n: ∀(l:List Nat) (is:List AI) (a:Act) (w:World) (ρ:Nat→Loc) (s:St) (K:St→Prop),is.length=l.length→(∀(q:Nat) j,l[q]? =some j→ ∃o i,ops[j]? =some o∧is[q]? =some i∧B9l P B N ops o=some i)→
  HeapR w O ρ s.n s.h→Sim P bs N (A4 w O ρ s.n s.h) s.sl a→A7K P PK is s K→
  (∀ρ' (s':St) a' w',HeapR w' O ρ' s'.n s'.h→Sim P bs N (A4 w' O ρ' s'.n s'.h) s'.sl a'→Ext (A4 w O ρ s.n s.h) (A4 w' O ρ' s'.n s'.h)→PutsOf (fun i=> ∃o∈ops,o.dst=some i) a a'→K s'→Q .normal a' w')→
  (∀x ρ' h' n' a' w',HeapR w' O ρ' n' h'→Ext (A4 w O ρ s.n s.h) (A4 w' O ρ' n' h')→(bs=none→a'.defers= [])→PutsOf (fun i=> ∃o∈ops,o.dst=some i) a a'→PK x h' n'→Q (.panic [{v:=x,recovered:=false}]) a' w')→wpOpsIn (Fr ro) 0 P ops Q l a w
 | [],is,a,w,ρ,s,K,hl,_,hr,hs,hk,hq,_=>by
  have:is= []:=List.eq_nil_of_length_eq_zero zy
  subst this
  exact hq ρ s a w hr hs (Ext.refl _) (.refl _ _) hk
 | j::l,is,a,w,ρ,s,K,hl,hc,hr,hs,hk,hq,hp=>by
  obtain⟨o,i,ho,hi,hcomp⟩:=hc 0 j rfl
  cases is with
  |nil=>cases hi
  | cons i' is=>
   simp at hi
   subst hi
   simp only [wpOpsIn,ho]
   have step:=C0P (Q:=Q) (ro:=ro) (next:=wpOpsIn (Fr ro) 0 P ops Q l) hcomp hr hs hk (fun x ρ' h' n' a' w' h1 h2 h3 h4=>hp x ρ' h' n' a' w' h1 h2 h3 (h4.weak fun i hi=>⟨o,Array.mem_of_getElem? ho,hi⟩)) fun ρ' s' a' w' hr' hs' hx' hpu hk'=>
    B3n l is a' w' ρ' s' K zy (fun q j' hj=>hc (q+1) j' zL) hr' hs' hk' (fun ρ2 s2 a2 w2 hr2 hs2 hx2 hpu2 hk2=>hq ρ2 s2 a2 w2 hr2 hs2 (hx'.trans hx2) ((hpu.weak fun i hi=>⟨o,Array.mem_of_getElem? ho,hi⟩).trans hpu2) hk2) fun x ρ2 h2 n2 a2 w2 hr2 hx2 hd2 hpu2=>hp x ρ2 h2 n2 a2 w2 hr2 (hx'.trans hx2) hd2 ((hpu.weak fun i hi=>⟨o,Array.mem_of_getElem? ho,hi⟩).trans hpu2)
   split at step
   ·rename_i hw;rw [if_pos hw];exact step
   ·rename_i hw;rw [if_neg hw];exact⟨fun _ _=>trivial,step⟩
end
end Go.Abs
namespace Go.Abs
variable {PK:R8}
def A2a:Opd→List Nat
 | .t i=> [i]
 |_=> []
def C2C:Option Opd→List Nat
 |some x=>A2a x
 |none=> []
def B6f:AO→List Nat
 | .mov x| .nilck x| .box _ _ x| .load _ _ x| .boxi _ x| .boxt _ _ _ x| .pan x| .loadi _ _ x| .faddr _ x| .fld _ _ _ x| .ext _ x| .un _ x| .negw x| .conv _ x| .bst x| .cvr x| .isnil _ x| .eqn _ _ x| .len _ x| .mksl _ _ x| .clr _ x=>A2a x
 | .pick c a b=>A2a c++A2a a++A2a b
 | .build _ ps=>ps.flatMap fun p=>A2a p.2.2
 | .mkrow _ _ xs| .mkisl _ xs| .mkraw _ xs| .mm _ xs| .mkfn _ xs| .call _ xs| .pcall _ xs| .callp _ xs=>xs.flatMap A2a
 | .store _ x v| .iaddr _ x v| .iaddrA _ _ x v| .idx x v| .bin _ x v| .binw _ x v| .eqp _ _ x v| .eqa _ _ x v| .app _ _ x v| .appt _ _ _ x v| .apb _ _ _ x v| .sh _ x v| .idxA _ _ _ _ x v=>A2a x++A2a v
 | .slc _ x lo hi| .sls x lo hi=>A2a x++C2C lo++C2C hi
 | .lenc _| .bad=> []
 | .callv f xs=>A2a f++xs.flatMap A2a
section
variable {P:Program} {s s':St}
def D0(l:List Nat)(s s':St):Prop:= ∀i∈l,E0 s.sl i=E0 s'.sl i
theorem D0.left{l r:List Nat}(h:D0 (l++r) s s'):D0 l s s':=fun i hi=>h i (by simp [hi])
theorem D0.right{l r:List Nat}(h:D0 (l++r) s s'):D0 r s s':=fun i hi=>h i (by simp [hi])
theorem D0.ev{x:Opd}(h:D0 (A2a x) s s'):s.ev x=s'.ev x:=by
 cases x with
 |t i=>exact h i (by simp [A2a])
 |c v=>rfl
 |f g=>rfl
 |g g=>rfl
theorem D0.evo{x:Option Opd}(h:D0 (C2C x) s s'):x.map s.ev=x.map s'.ev:=by
 cases x with
 |none=>rfl
 |some x=>simp only [Option.map_some];rw [D0.ev h]
theorem D0.evs: ∀{xs:List Opd} (_:D0 (xs.flatMap A2a) s s'),xs.map s.ev=xs.map s'.ev
 | [],_=>rfl
 |x::r,h=>by
  rw [List.flatMap_cons]at h
  simp only [List.map_cons,h.left.ev,D0.evs h.right]
theorem D0.rows{sz:Nat}: ∀{xs:List Opd} (_:D0 (xs.flatMap A2a) s s'),I9 sz s xs=I9 sz s' xs
 | [],_=>rfl
 |x::r,h=>by
  rw [List.flatMap_cons]at h
  simp only [I9,h.left.ev,D0.rows h.right]
theorem D0.fill: ∀{ps:List (Nat×Nat×Opd)} {z:List V} (_:D0 (ps.flatMap fun p=>A2a p.2.2) s s'),A2m s z ps=A2m s' z ps
 | [],_,_=>rfl
 | p::r,z,h=>by
  rw [List.flatMap_cons]at h
  simp only [A2m,h.left.ev]
  cases U2 (s'.ev p.2.2)with
  |none=>rfl
  |some cs=>
   simp only
   rw [D0.fill (z:=I8 z p.1 cs) h.right]
theorem A0c{ao:AO}{k:Res}(h:D0 (B6f ao) s s')(hh:s.h=s'.h)(hn:s.n=s'.n):A8 P PK ao s k=A8 P PK ao s' k:=by
 cases ao<;>simp only [B6f]at h<;>simp only [A8,hh,hn]
 case mov=>rw [h.ev]
 case nilck=>rw [h.ev]
 case box=>rw [h.ev]
 case load=>rw [h.ev]
 case faddr=>rw [h.ev]
 case fld=>rw [h.ev]
 case ext=>rw [h.ev]
 case un=>rw [h.ev]
 case negw=>rw [h.ev]
 case conv=>rw [h.ev]
 case bst=>rw [h.ev]
 case isnil=>rw [h.ev]
 case len=>rw [h.ev]
 case mksl=>rw [h.ev]
 case pick=>rw [h.left.left.ev,h.left.right.ev,h.right.ev]
 case build=>rw [h.fill]
 case mkrow=>rw [h.rows]
 case mkisl=>rw [h.rows]
 case mkraw=>rw [h.rows]
 case cvr=>rw [h.ev]
 case mm=>rw [h.evs]
 case mkfn=>rw [h.evs]
 case call=>rw [h.evs]
 case eqn=>rw [h.ev]
 case callp=>rw [h.evs]
 case boxi=>rw [h.ev]
 case boxt=>rw [h.ev]
 case appt=>rw [h.left.ev,h.right.ev]
 case pan=>rw [h.ev]
 case loadi=>rw [h.ev]
 case pcall=>rw [h.evs]
 case store=>rw [h.left.ev,h.right.ev]
 case iaddr=>rw [h.left.ev,h.right.ev]
 case iaddrA=>rw [h.left.ev,h.right.ev]
 case idx=>rw [h.left.ev,h.right.ev]
 case bin=>rw [h.left.ev,h.right.ev]
 case binw=>rw [h.left.ev,h.right.ev]
 case eqp=>rw [h.left.ev,h.right.ev]
 case eqa=>rw [h.left.ev,h.right.ev]
 case app=>rw [h.left.ev,h.right.ev]
 case apb=>rw [h.left.ev,h.right.ev]
 case sh=>rw [h.left.ev,h.right.ev]
 case idxA=>rw [h.left.ev,h.right.ev]
 case clr=>rw [h.ev]
 case slc=>rw [h.left.left.ev,h.left.right.evo,h.right.evo]
 case sls=>rw [h.left.left.ev,h.left.right.evo,h.right.evo]
 case callv=>rw [h.left.ev,h.right.evs]
section mono
variable {k k':Res} {hp:A2} {n:Nat} (hk: ∀v h n,k v h n→k' v h n)
include hk
theorem F7{o:Option V}(h:J1 o k hp n):J1 o k' hp n:=by
 cases o with
 |none=>exact h
 |some v=>exact hk _ _ _ h
theorem C1c{f:FuncId}{as:List V}(h:B3x P f as hp n k PK):B3x P f as hp n k' PK:=fun w O ρ cargs h1 h2=>(h w O ρ cargs h1 h2).mono fun e w' h=>h.imp (fun⟨v,r,h',n',ρ',q1,q2,q3⟩=>⟨v,r,h',n',ρ',q1,hk _ _ _ q2,q3⟩) id
theorem B0y{f:FuncId}{as:List V}(h:A0 P f as hp n k):A0 P f as hp n k':=fun w O ρ cargs h1 h2=>(h w O ρ cargs h1 h2).mono fun _ _ ⟨v,r,h',n',ρ',a,b,c⟩=>⟨v,r,h',n',ρ',a,hk _ _ _ b,c⟩
theorem C4l{fn neg:Bool}{x:V}(h:A6u fn neg x k hp n):A6u fn neg x k' hp n:=by
 unfold A6u at h⊢
 split at h
 ·exact hk _ _ _ h
 ·exact⟨hk _ _ _ h.1,fun e=>hk _ _ _ (h.2 e)⟩
 ·exact⟨hk _ _ _ h.1,fun e=>hk _ _ _ (h.2 e)⟩
 ·exact hk _ _ _ h
 ·exact hk _ _ _ h
 ·exact h.elim
theorem C3K{b st:Nat}{as:List V}(h:J4 P b st as hp n k):J4 P b st as hp n k':=fun w O ρ cargs h1 h2 h3=>
 let ⟨r,a,b,c⟩:=h w O ρ cargs h1 h2 h3
 ⟨r,a,b,c.mono fun _ _ ⟨v,x,h',n',ρ',e,q,r'⟩=>⟨v,x,h',n',ρ',e,hk _ _ _ q,r'⟩⟩
theorem C3R{op:BinOp}{x y:V}(h:V5 op x y k hp n):V5 op x y k' hp n:=by
 unfold V5 at h⊢
 split at h
 ·cases op<;>first
   |exact h
   |exact⟨h.1,hk _ _ _ h.2⟩
   |exact⟨h.1,h.2.1,hk _ _ _ h.2.2⟩
   |exact⟨h.1,h.2.1,h.2.2.1,hk _ _ _ h.2.2.2⟩
 ·cases op<;>first
   |exact h
   |exact hk _ _ _ h
   |exact⟨h.1,hk _ _ _ h.2⟩
 ·exact h
theorem C7A{l:Bool}{x y:V}(h:shK l x y k hp n):shK l x y k' hp n:=by
 unfold shK at h⊢
 exact Xy
theorem C1F{len sz m:Nat}{agg:Bool}{x y:V}(h:A8k len sz m agg x y k hp n):A8k len sz m agg x y k' hp n:=by
 unfold A8k at h⊢
 split at h
 ·exact⟨h.1,h.2.1,F7 hk h.2.2⟩
 ·exact h
theorem C3Y{z:List V}{x:V}(h:B3W z x k hp n):B3W z x k' hp n:=by
 unfold B3W at h⊢
 split at h
 ·exact hk _ _ _ h
 ·split at h
  ·exact Ks
  ·exact h
 ·exact h
theorem C8f{op:UnOp}{x:V}(h:unK op x k hp n):unK op x k' hp n:=by
 unfold unK at h⊢
 split at h
 ·exact⟨h.1,hk _ _ _ h.2⟩
 ·exact hk _ _ _ h
 ·exact hk _ _ _ h
 ·exact h
theorem B6A{L nm sz:Nat}{b:V}{xs:Option (List (List V))}(h:A7U L nm sz b xs k hp n):A7U L nm sz b xs k' hp n:=by
 unfold A7U at h⊢
 cases xs with
 |none=>exact h
 | some xs=>
  obtain⟨h1,h⟩:=h
  refine⟨h1,?_⟩
  cases b<;>first
   |exact h
   |exact⟨h.1,hk _ _ _ h.2⟩
   |skip
  simp only at h⊢
  split at h
  ·exact YF
  ·exact h
theorem C1f{T nm sz:Nat}{b:V}{xs:Option (List (List V))}(h:A4a T nm sz b xs k hp n):A4a T nm sz b xs k' hp n:=by
 unfold A4a at h⊢
 cases xs with
 |none=>exact h
 | some xs=>
  obtain⟨h1,h0,h⟩:=h
  refine⟨h1,h0,?_⟩
  cases b<;>first
   |exact h
   |exact⟨h.1,hk _ _ _ h.2⟩
   |skip
  simp only at h⊢
  split at h
  ·exact⟨h.1,h.2.1,h.2.2.1,h.2.2.2.1,h.2.2.2.2.1,hk _ _ _ h.2.2.2.2.2⟩
  ·exact h
theorem C5j{sz:Nat}{x:V}{lo hi:Option V}(h:B2J sz x lo hi k hp n):B2J sz x lo hi k' hp n:=by
 unfold B2J at h⊢
 cases x<;>first
  |exact h
  | (simp only at h⊢
     split at h
     ·first
       |exact⟨h.1,h.2.1,h.2.2.1,h.2.2.2.1,hk _ _ _ h.2.2.2.2⟩
       |exact⟨h.1,h.2.1,hk _ _ _ h.2.2⟩
     ·exact h)
theorem C5k{x:V}{lo hi:Option V}(h:B4b x lo hi k hp n):B4b x lo hi k' hp n:=by
 unfold B4b at h⊢
 cases x<;>first
  |exact h
  | (simp only at h⊢
     split at h
     ·exact YF
     ·exact h)
theorem S4{ao:AO}(h:A8 P PK ao s k):A8 P PK ao s k':=by
 cases ao<;>simp only [A8]at h⊢
 case mov=>exact hk _ _ _ h
 case pick=>exact F7 hk h
 case nilck=>exact F7 hk h
 case build=>exact F7 hk h
 case load=>exact F7 hk h
 case faddr=>exact F7 hk h
 case fld=>exact F7 hk h
 case ext=>exact F7 hk h
 case eqp=>exact F7 hk h
 case eqa=>exact F7 hk h
 case conv=>exact F7 hk h
 case bst=>exact F7 hk h
 case isnil=>exact F7 hk h
 case len=>exact F7 hk h
 case mm=>exact F7 hk h
 case lenc=>exact hk _ _ _ h
 case mkfn=>exact hk _ _ _ h
 case bin=>exact C3R hk h
 case binw=>exact F7 hk h
 case un=>exact C8f hk h
 case negw=>exact F7 hk h
 case sh=>exact C7A hk h
 case idxA=>exact C1F hk h
 case clr=>exact C3Y hk h
 case app=>exact B6A hk h
 case apb=>exact B6A hk h
 case appt=>exact C1f hk h
 case boxt=>
  unfold B3z at h⊢
  exact Xy
 case slc=>exact C5j hk h
 case sls=>exact C5k hk h
 case call=>exact B0y hk h
 case callp=>exact C1c hk h
 case pan=>exact h
 case boxi=>
  unfold B1t at h⊢
  exact Xy
 case loadi=>
  unfold A3p at h⊢
  split at h
  ·exact F7 hk h
  ·exact h
 case pcall=>
  obtain⟨r,h1,h2⟩:=h
  exact⟨r,h1,hk _ _ _ h2⟩
 case eqn=>exact C4l hk h
 case callv=>
  unfold A8a at h⊢
  split at h
  ·exact⟨h.1,B0y hk h.2⟩
  ·exact C3K hk h
  ·exact h
 case box=>
  unfold B7X at h⊢
  exact Xy
 case mkrow=>
  unfold C2n at h⊢
  exact KE
 case mkraw=>
  unfold C2h at h⊢
  exact Xy
 case cvr=>
  unfold B8f at h⊢
  split at h
  ·unfold C1r at h⊢
   exact Xy
  ·exact h
 case mkisl=>
  unfold B9L at h⊢
  exact KE
 case store=>
  unfold A5h at h⊢
  exact KE
 case iaddr=>
  unfold A3b at h⊢
  split at h
  ·split at h
   ·exact YF
   ·exact YF
   ·exact h
  ·exact h
 case iaddrA=>
  unfold A1M at h⊢
  split at h
  ·split at h
   ·exact Ks
   ·exact Ks
   ·exact h
  ·exact h
 case idx=>
  unfold B8o at h⊢
  split at h
  ·exact⟨h.1,F7 hk h.2⟩
  ·exact h
 case mksl=>
  unfold B3I at h⊢
  split at h
  ·exact Ks
  ·exact h
end mono
def cls:AO→Nat
 | .mov _| .pick .. | .nilck _| .build .. | .mkisl .. | .faddr .. | .iaddrA .. | .fld .. | .idx .. | .ext .. | .bin .. | .binw .. | .eqp .. | .eqa .. | .un .. | .negw .. | .conv .. | .isnil .. | .lenc _| .mm .. | .mkfn .. | .sls .. | .sh .. | .idxA .. | .boxi .. | .loadi .. =>0
 | .load .. | .iaddr .. | .len .. | .slc .. =>1
 |_=>2
def keeps:AO→Bool
 | .pcall .. =>true
 | .eqn .. =>true
 |_=>false
def D1p(P:Program)(PK:R8)(ao:AO)(s:St)(pre:Prop)(v:V):Prop:= ∀(k:Res) h n,(cls ao=0∨h=s.h)→(A8 P PK ao ⟨s.sl,h,n⟩ k↔pre∧k v h n)
theorem G7(o:Option V): ∃(pre:Prop) (v:V),∀(k:Res) h n,J1 o k h n↔pre∧k v h n:=by
 cases o with
 |none=>exact⟨False,.undef,fun k h n=>by simp [J1]⟩
 |some v=>exact⟨True,v,fun k h n=>by simp [J1]⟩
theorem af2{a b x:Prop}:(a∧b∧x)↔((a∧b)∧x):=and_assoc.symm
theorem af3{a b c x:Prop}:(a∧b∧c∧x)↔((a∧b∧c)∧x):=by simp only [and_assoc]
theorem af4{a b c d x:Prop}:(a∧b∧c∧d∧x)↔((a∧b∧c∧d)∧x):=by simp only [and_assoc]
theorem d9: ∃(pre:Prop) (v:V),∀(k:Res) (h:A2) (n:Nat),False↔pre∧k v h n:=⟨False,.undef,fun _ _ _=>by simp⟩
theorem C3Q(op:BinOp)(x y:V): ∃(pre:Prop) (v:V),∀(k:Res) h n,V5 op x y k h n↔pre∧k v h n:=by
 unfold V5
 split
 ·cases op
  case add=>unfold V4;exact⟨_,_,fun k h n=>af2⟩
  case sub=>unfold V4;exact⟨_,_,fun k h n=>af2⟩
  case mul=>unfold V4;exact⟨_,_,fun k h n=>af2⟩
  case quo=>unfold V4;exact⟨_,_,fun k h n=>af3⟩
  case rem=>exact⟨_,_,fun k h n=>af2⟩
  case eql=>exact⟨_,_,fun k h n=>Iff.rfl⟩
  case neq=>exact⟨_,_,fun k h n=>Iff.rfl⟩
  case lss=>exact⟨_,_,fun k h n=>Iff.rfl⟩
  case leq=>exact⟨_,_,fun k h n=>Iff.rfl⟩
  case gtr=>exact⟨_,_,fun k h n=>Iff.rfl⟩
  case geq=>exact⟨_,_,fun k h n=>Iff.rfl⟩
  case and=>exact⟨_,_,fun k h n=>Iff.rfl⟩
  case or=>exact⟨_,_,fun k h n=>Iff.rfl⟩
  case xor=>exact⟨_,_,fun k h n=>Iff.rfl⟩
  case andNot=>exact⟨_,_,fun k h n=>Iff.rfl⟩
  all_goals exact⟨False,.undef,fun k h n=>by simp⟩
 ·cases op
  case add=>exact⟨_,_,fun k h n=>Iff.rfl⟩
  case eql=>exact⟨True,_,fun k h n=>by rw [true_and]⟩
  case neq=>exact⟨True,_,fun k h n=>by rw [true_and]⟩
  case lss=>exact⟨True,_,fun k h n=>by rw [true_and]⟩
  case geq=>exact⟨True,_,fun k h n=>by rw [true_and]⟩
  case leq=>exact⟨True,_,fun k h n=>by rw [true_and]⟩
  case gtr=>exact⟨True,_,fun k h n=>by rw [true_and]⟩
  all_goals exact⟨False,.undef,fun k h n=>by simp⟩
 ·exact d9
theorem C8e(op:UnOp)(x:V): ∃(pre:Prop) (v:V),∀(k:Res) h n,unK op x k h n↔pre∧k v h n:=by
 unfold unK
 split
 ·unfold V4;exact⟨_,_,fun k h n=>Iff.rfl⟩
 ·exact YG
 ·exact YG
 ·exact d9
theorem C2Y{ao:AO}(h:cls ao≤1)(s:St): ∃pre v,D1p P PK ao s pre v:=by
 have c0: ∀{ao:AO},cls ao=0→(∃(pre:Prop) (v:V),∀(k:Res) h n,A8 P PK ao ⟨s.sl,h,n⟩ k↔pre∧k v h n)→ ∃pre v,D1p P PK ao s pre v:=fun _ ⟨pre,v,hf⟩=>⟨pre,v,fun k h n _=>hf k h n⟩
 have c1: ∀{ao:AO},cls ao=1→(∃(pre:Prop) (v:V),∀(k:Res) n,A8 P PK ao ⟨s.sl,s.h,n⟩ k↔pre∧k v s.h n)→ ∃pre v,D1p P PK ao s pre v:=fun hc ⟨pre,v,hf⟩=>⟨pre,v,fun k h n hh=>by
  rcases hh with hh|rfl
  ·rw [hc]at hh;cases hh
  ·exact hf k n⟩
 have o1: ∀(o:Option V),∃(pre:Prop) (v:V),∀(k:Res) (n:Nat),J1 o k s.h n↔pre∧k v s.h n:=fun o=>let ⟨p,v,hf⟩:=G7 o;⟨p,v,fun k n=>hf k s.h n⟩
 cases ao<;>simp only [cls]at h<;>try omega
 case mov x=>
  have e1: ∀h n,(⟨s.sl,h,n⟩:St).ev x=s.ev x:=fun h n=>D0.ev fun _ _=>rfl
  exact c0 rfl ⟨True,s.ev x,fun k h n=>by rw [true_and];simp only [A8,e1]⟩
 case pick c a b=>
  refine c0 rfl ?_
  have e0: ∀h n,(⟨s.sl,h,n⟩:St).ev c=s.ev c:=fun h n=>D0.ev fun _ _=>rfl
  have e1: ∀h n,(⟨s.sl,h,n⟩:St).ev a=s.ev a:=fun h n=>D0.ev fun _ _=>rfl
  have e2: ∀h n,(⟨s.sl,h,n⟩:St).ev b=s.ev b:=fun h n=>D0.ev fun _ _=>rfl
  simp only [A8,e0,e1,e2]
  exact G7 _
 case boxi sz x=>
  refine c0 rfl ?_
  have e0: ∀h n,(⟨s.sl,h,n⟩:St).ev x=s.ev x:=fun h n=>D0.ev fun _ _=>rfl
  simp only [A8,e0]
  cases hc:U2 (s.ev x)with
  |none=>exact d9
  |some cs=>exact⟨cs.length=sz,.iptr [cs] 0 0,fun k h n=>Iff.rfl⟩
 case loadi m agg x=>
  refine c0 rfl ?_
  have e0: ∀h n,(⟨s.sl,h,n⟩:St).ev x=s.ev x:=fun h n=>D0.ev fun _ _=>rfl
  simp only [A8,e0]
  unfold A3p
  split
  ·exact G7 _
  ·exact d9
 case nilck x=>
  exact Jw
 case build z ps=>
  refine c0 rfl ?_
  have e: ∀h n,A2m ⟨s.sl,h,n⟩ z ps=A2m s z ps:=fun h n=>D0.fill fun _ _=>rfl
  simp only [A8,e]
  exact G7 _
 case mkisl sz xs=>
  refine c0 rfl ?_
  have e: ∀h n,I9 sz ⟨s.sl,h,n⟩ xs=I9 sz ⟨s.sl,[],0⟩ xs:=fun h n=>D0.rows fun _ _=>rfl
  simp only [A8,e]
  unfold B9L
  split
  ·exact YG
  ·exact d9
 case faddr off x=>
  exact Jw
 case iaddrA len sz x i=>
  refine c0 rfl ?_
  simp only [A8]
  have e1: ∀h n,(⟨s.sl,h,n⟩:St).ev x=s.ev x:=fun h n=>D0.ev fun _ _=>rfl
  have e2: ∀h n,(⟨s.sl,h,n⟩:St).ev i=s.ev i:=fun h n=>D0.ev fun _ _=>rfl
  simp only [e1,e2]
  unfold A1M
  split
  ·split
   ·exact⟨_,_,fun k h n=>af2⟩
   ·exact⟨_,_,fun k h n=>af2⟩
   ·exact d9
  ·exact d9
 case fld off m agg x=>
  exact Jw
 case idx x i=>
  refine c0 rfl ?_
  simp only [A8]
  have e1: ∀h n,(⟨s.sl,h,n⟩:St).ev x=s.ev x:=fun h n=>D0.ev fun _ _=>rfl
  have e2: ∀h n,(⟨s.sl,h,n⟩:St).ev i=s.ev i:=fun h n=>D0.ev fun _ _=>rfl
  simp only [e1,e2]
  unfold B8o
  split
  ·rename_i b _ z _ _
   obtain⟨p,v,hf⟩:=G7 ((b[z.toNat]?).map fun b=> .int .u8 b.toNat)
   exact⟨_∧p,v,fun k h n=>by rw [and_assoc,←hf k h n]⟩
  ·exact d9
 case ext i x=>
  exact Jw
 case bin op x y=>
  refine c0 rfl ?_
  have e0: ∀h n,(⟨s.sl,h,n⟩:St).ev x=s.ev x:=fun h n=>D0.ev fun _ _=>rfl
  have e1: ∀h n,(⟨s.sl,h,n⟩:St).ev y=s.ev y:=fun h n=>D0.ev fun _ _=>rfl
  simp only [A8,e0,e1]
  exact C3Q _ _ _
 case binw op x y=>
  exact JK
 case sh l x y=>
  refine c0 rfl ?_
  have e0: ∀h n,(⟨s.sl,h,n⟩:St).ev x=s.ev x:=fun h n=>D0.ev fun _ _=>rfl
  have e1: ∀h n,(⟨s.sl,h,n⟩:St).ev y=s.ev y:=fun h n=>D0.ev fun _ _=>rfl
  simp only [A8,e0,e1]
  unfold shK
  split
  ·exact⟨_,_,fun k h n=>Iff.rfl⟩
  ·exact d9
 case idxA len sz m agg x y=>
  refine c0 rfl ?_
  have e0: ∀h n,(⟨s.sl,h,n⟩:St).ev x=s.ev x:=fun h n=>D0.ev fun _ _=>rfl
  have e1: ∀h n,(⟨s.sl,h,n⟩:St).ev y=s.ev y:=fun h n=>D0.ev fun _ _=>rfl
  simp only [A8,e0,e1]
  unfold A8k
  split
  ·rename_i cs _ z _ _
   obtain⟨p,v,hf⟩:=G7 (I1 cs (z.toNat*sz) m agg)
   exact⟨_∧_∧p,v,fun k h n=>by rw [hf k h n];exact af3⟩
  ·exact d9
 case eqp kd neg x y=>
  exact JK
 case eqa neg t x y=>
  exact JK
 case negw x=>
  exact Jw
 case un op x=>
  refine c0 rfl ?_
  have e0: ∀h n,(⟨s.sl,h,n⟩:St).ev x=s.ev x:=fun h n=>D0.ev fun _ _=>rfl
  simp only [A8,e0]
  exact C8e _ _
 case conv j x=>
  exact Jw
 case isnil neg x=>
  exact Jw
 case lenc m=>exact c0 rfl ⟨True,.int .i64 m,fun k h n=>by rw [true_and];exact Iff.rfl⟩
 case mm mx xs=>
  refine c0 rfl ?_
  have e: ∀h n,xs.map (⟨s.sl,h,n⟩:St).ev=xs.map s.ev:=fun h n=>D0.evs fun _ _=>rfl
  simp only [A8,e]
  exact G7 _
 case mkfn f xs=>
  refine c0 rfl ?_
  have e: ∀h n,xs.map (⟨s.sl,h,n⟩:St).ev=xs.map s.ev:=fun h n=>D0.evs fun _ _=>rfl
  simp only [A8,e]
  exact YG
 case sls x lo hi=>
  refine c0 rfl ?_
  have e1: ∀h n,(⟨s.sl,h,n⟩:St).ev x=s.ev x:=fun h n=>D0.ev fun _ _=>rfl
  have e2: ∀h n,lo.map (⟨s.sl,h,n⟩:St).ev=lo.map s.ev:=fun h n=>D0.evo fun _ _=>rfl
  have e3: ∀h n,hi.map (⟨s.sl,h,n⟩:St).ev=hi.map s.ev:=fun h n=>D0.evo fun _ _=>rfl
  simp only [A8,e1,e2,e3]
  unfold B4b
  split
  ·split
   ·exact⟨_,_,fun k h n=>af3⟩
   ·exact d9
  ·exact d9
 case load m agg x=>
  exact Ys
 case len kd x=>
  exact Ys
 case iaddr sz x i=>
  refine c1 rfl ?_
  simp only [A8]
  have e1: ∀h n,(⟨s.sl,h,n⟩:St).ev x=s.ev x:=fun h n=>D0.ev fun _ _=>rfl
  have e2: ∀h n,(⟨s.sl,h,n⟩:St).ev i=s.ev i:=fun h n=>D0.ev fun _ _=>rfl
  simp only [e1,e2]
  unfold A3b
  split
  ·split
   ·exact⟨_,_,fun k n=>af3⟩
   ·exact⟨_,_,fun k n=>af3⟩
   ·exact XZ
  ·exact XZ
 case slc sz x lo hi=>
  refine c1 rfl ?_
  have e1: ∀h n,(⟨s.sl,h,n⟩:St).ev x=s.ev x:=fun h n=>D0.ev fun _ _=>rfl
  have e2: ∀h n,lo.map (⟨s.sl,h,n⟩:St).ev=lo.map s.ev:=fun h n=>D0.evo fun _ _=>rfl
  have e3: ∀h n,hi.map (⟨s.sl,h,n⟩:St).ev=hi.map s.ev:=fun h n=>D0.evo fun _ _=>rfl
  simp only [A8,e1,e2,e3]
  unfold B2J
  split
  ·split
   ·exact⟨_,_,fun k n=>af4⟩
   ·exact XZ
  ·split
   ·exact⟨_,_,fun k n=>af4⟩
   ·exact XZ
  ·split
   ·exact⟨_,_,fun k n=>af2⟩
   ·exact XZ
  ·exact XZ
end
end Go.Abs
namespace Go.Abs
variable {PK:R8}
def Eqv(s s':St):Prop:=(∀i,E0 s.sl i=E0 s'.sl i)∧s.h=s'.h∧s.n=s'.n
def B0z(K:St→Prop):Prop:= ∀s s',Eqv s s'→K s→K s'
theorem Eqv.refl(s:St):Eqv s s:=⟨fun _=>rfl,rfl,rfl⟩
theorem Eqv.symm{s s':St}(h:Eqv s s'):Eqv s' s:=⟨fun i=>(h.1 i).symm,h.2.1.symm,h.2.2.symm⟩
def B2R(i:AI):List Nat:=B6f i.o++(match i.g with|some q=> [q.1]|none=> [])
def upd(s:St)(d:Option Nat)(v:V):St:=
 match d with
 |some d=>⟨G0 s.sl d v,s.h,s.n⟩
 |none=>s
section
variable {P:Program}
theorem A3H{sl sl':List (Nat×V)}(h: ∀i,E0 sl i=E0 sl' i)(d:Nat)(v:V)(i:Nat):E0 (G0 sl d v) i=E0 (G0 sl' d v) i:=by
 rw [L2,L2,h]
theorem B1I{d:Option Nat}{sl:List (Nat×V)}{K K':St→Prop}(h: ∀s,K s→K' s): ∀v hp n,fin d sl K v hp n→fin d sl K' v hp n:=by
 intro v hp n hk
 cases d with
 |none=>exact h _ hk
 |some d=>exact h _ hk
theorem A3I{i:AI}{s:St}{K K':St→Prop}(h: ∀s,K s→K' s)(hk:H7 P PK i s K):H7 P PK i s K':=by
 unfold H7 at hk⊢
 split at hk
 ·exact S4 (B1I h) hk
 ·unfold stepG at hk⊢
  split at hk
  ·exact⟨fun hb=>S4 (B1I h) (hk.1 hb),fun hb=>B1I h _ _ _ (hk.2 hb)⟩
  ·exact⟨hk.1,B1I h _ _ _ hk.2⟩
  ·exact hk
theorem B1J{d:Option Nat}{sl sl':List (Nat×V)}{K:St→Prop}(hK:B0z K)(h: ∀i,E0 sl i=E0 sl' i): ∀v hp n,fin d sl K v hp n→fin d sl' K v hp n:=by
 intro v hp n hk
 cases d with
 |none=>exact hK ⟨sl,hp,n⟩ ⟨sl',hp,n⟩ ⟨h,rfl,rfl⟩ hk
 |some d=>exact hK ⟨G0 sl d v,hp,n⟩ ⟨G0 sl' d v,hp,n⟩ ⟨fun i=>A3H h d v i,rfl,rfl⟩ hk
theorem B5Z{i:AI}{s s':St}{K:St→Prop}(hK:B0z K)(h:Eqv s s')(hk:H7 P PK i s K):H7 P PK i s' K:=by
 unfold H7 at hk⊢
 split at hk
 ·rw [←A0c (fun i _=>h.1 i) h.2.1 h.2.2]
  exact S4 (B1J hK h.1) hk
 ·rename_i j want _
  rw [←h.1 j]
  unfold stepG at hk⊢
  split at hk
  ·refine⟨fun hb=> ?_,fun hb=> ?_⟩
   ·have:=hk.1 hb
    rw [A0c (s:=⟨G0 s.sl j (.bool want),s.h,s.n⟩) (s':=⟨G0 s'.sl j (.bool want),s'.h,s'.n⟩) (fun i _=>A3H h.1 j _ i) h.2.1 h.2.2]at this
    exact S4 (B1J hK fun i=>A3H h.1 j _ i) this
   ·have:=hk.2 hb
    rw [←h.2.1,←h.2.2]
    exact B1J hK (fun i=>A3H h.1 j _ i) _ _ _ this
  ·refine⟨hk.1,?_⟩
   rw [←h.2.1,←h.2.2]
   exact B1J hK h.1 _ _ _ hk.2
  ·exact hk
theorem B6x: ∀{l:List AI} {s:St} {K K':St→Prop},(∀s,K s→K' s)→A7K P PK l s K→A7K P PK l s K'
 | [],_,_,_,h,hk=>h _ hk
 |_::_,_,_,_,h,hk=>A3I (fun _=>B6x h) hk
theorem B6y: ∀{l:List AI} {K:St→Prop},B0z K→B0z fun s=>A7K P PK l s K
 | [],_,hK=>hK
 |_::_,_,hK=>fun _ _ h hk=>B5Z (B6y hK) h hk
theorem S3{sl:List (Nat×V)}{j:Nat}{v:V}(h:E0 sl j=v)(i:Nat):E0 (G0 sl j v) i=E0 sl i:=by
 rw [L2]
 split
 ·rename_i e;rw [←e,h]
 ·rfl
theorem B5m{i:AI}(hc:cls i.o≤1)(s:St): ∃(pre:Prop) (v:V),∀s',D0 (B2R i) s s'→(cls i.o=0∨s'.h=s.h)→ ∀K,B0z K→(H7 P PK i s' K↔pre∧K (upd s' i.d v)):=by
 obtain⟨d,g,ao⟩:=i
 have fin_upd: ∀(s':St) (K:St→Prop) (v:V),fin d s'.sl K v s'.h s'.n↔K (upd s' d v):=by
  intro s' K v
  cases d<;>exact Iff.rfl
 cases g with
 |none=>
  obtain⟨pre,v,hf⟩:=C2Y (P:=P) (PK:=PK) hc s
  refine⟨pre,v,fun s' ha hh K _=> ?_⟩
  have ha':D0 (B6f ao) s s':=ha.left
  have e:A8 P PK ao s' (fin d s'.sl K)=A8 P PK ao ⟨s.sl,s'.h,s'.n⟩ (fin d s'.sl K):=A0c (fun i hi=>(ha' i hi).symm) rfl rfl
  show A8 P PK ao s' (fin d s'.sl K)↔_
  rw [e,hf _ _ _ hh,fin_upd]
 | some q=>
  obtain⟨j,want⟩:=q
  have hj: ∀s',D0 (B2R ⟨d,some (j,want),ao⟩) s s'→E0 s.sl j=E0 s'.sl j:=fun s' ha=>ha j (by simp [B2R])
  by_cases hb: ∃b,E0 s.sl j= .bool b
  ·obtain⟨b,hb⟩:=hb
   by_cases hbw:b=want
   ·subst hbw
    obtain⟨pre,v,hf⟩:=C2Y (P:=P) (PK:=PK) hc ⟨G0 s.sl j (.bool b),s.h,s.n⟩
    refine⟨pre,v,fun s' ha hh K hK=> ?_⟩
    have hj':E0 s'.sl j= .bool b:=by rw [←hj s' ha];exact hb
    have ha':D0 (B6f ao) s s':=ha.left
    have e:A8 P PK ao ⟨G0 s'.sl j (.bool b),s'.h,s'.n⟩ (fin d (G0 s'.sl j (.bool b)) K)=A8 P PK ao ⟨G0 s.sl j (.bool b),s'.h,s'.n⟩ (fin d (G0 s'.sl j (.bool b)) K):=
     A0c (fun i hi=>by simp only [S3 hj',S3 hb];exact(ha' i hi).symm) rfl rfl
    have h1:H7 P PK ⟨d,some (j,b),ao⟩ s' K↔A8 P PK ao ⟨G0 s'.sl j (.bool b),s'.h,s'.n⟩ (fin d (G0 s'.sl j (.bool b)) K):=by
     simp only [H7,stepG,hj']
     constructor
     ·intro h;exact h.1 trivial
     ·intro h;exact⟨fun _=>h,fun hb=>by cases b<;>simp at hb⟩
    rw [h1,e,hf _ _ _ hh]
    refine and_congr_right fun _=> ?_
    rw [fin_upd ⟨G0 s'.sl j (.bool b),s'.h,s'.n⟩ K v]
    have ev:Eqv (upd ⟨G0 s'.sl j (.bool b),s'.h,s'.n⟩ d v) (upd s' d v):=by
     cases d with
     |none=>exact⟨fun i=>S3 hj' i,rfl,rfl⟩
     |some d=>exact⟨fun i=>A3H (S3 hj') d v i,rfl,rfl⟩
    exact⟨hK _ _ ev,hK _ _ ev.symm⟩
   ·have hbw':b= !want:=by cases b<;>cases want<;>simp_all
    refine⟨True,.cst Go.undef,fun s' ha hh K hK=> ?_⟩
    have hj':E0 s'.sl j= .bool b:=by rw [←hj s' ha];exact hb
    have h1:H7 P PK ⟨d,some (j,want),ao⟩ s' K↔fin d (G0 s'.sl j (.bool !want)) K (.cst Go.undef) s'.h s'.n:=by
     simp only [H7,stepG,hj']
     constructor
     ·intro h;exact h.2 hbw'
     ·intro h;exact⟨fun hb=>(hbw hb).elim,fun _=>h⟩
    rw [h1,true_and,←hbw',fin_upd ⟨G0 s'.sl j (.bool b),s'.h,s'.n⟩ K (.cst Go.undef)]
    have ev:Eqv (upd ⟨G0 s'.sl j (.bool b),s'.h,s'.n⟩ d (.cst Go.undef)) (upd s' d (.cst Go.undef)):=by
     cases d with
     |none=>exact⟨fun i=>S3 hj' i,rfl,rfl⟩
     |some d=>exact⟨fun i=>A3H (S3 hj') d (.cst Go.undef) i,rfl,rfl⟩
    exact⟨hK _ _ ev,hK _ _ ev.symm⟩
  ·by_cases hu: ∃u,E0 s.sl j= .cst u
   ·obtain⟨u,hu⟩:=hu
    refine⟨B2f u=true,.cst Go.undef,fun s' ha hh K hK=> ?_⟩
    have hj':E0 s'.sl j= .cst u:=by rw [←hj s' ha];exact hu
    simp only [H7,stepG,hj',fin_upd s' K (.cst Go.undef)]
   refine⟨False,.undef,fun s' ha hh K hK=> ?_⟩
   have hj': ∀b,E0 s'.sl j≠ .bool b:=fun b h=>hb ⟨b,by rw [hj s' ha];exact h⟩
   have hj2: ∀u,E0 s'.sl j≠ .cst u:=fun b h=>hu ⟨b,by rw [hj s' ha];exact h⟩
   rw [false_and,iff_false]
   intro h
   simp only [H7]at h
   cases hs:E0 s'.sl j<;>rw [hs]at h<;>first
    |exact hj' _ hs
    |exact hj2 _ hs
    |exact h
theorem D2i{j:AI}{s:St}{d:Nat}{v:V}{K:St→Prop}(hK:B0z K)(hu:d∉B2R j)(hd:j.d≠some d)(h:H7 P PK j (upd s (some d) v) K):H7 P PK j s fun s2=>K (upd s2 (some d) v):=by
 have key: ∀(sl:List (Nat×V)) (r:V) (hp:A2) (n:Nat) (sl':List (Nat×V)),(∀i,E0 sl' i=E0 (G0 sl d v) i)→fin j.d sl' K r hp n→fin j.d sl (fun s2=>K (upd s2 (some d) v)) r hp n:=by
  intro sl r hp n sl' he hf
  cases hjd:j.d with
  |none=>rw [hjd]at hf;exact hK ⟨sl',hp,n⟩ ⟨G0 sl d v,hp,n⟩ ⟨he,rfl,rfl⟩ hf
  | some e=>
   rw [hjd]at hf
   refine hK ⟨G0 sl' e r,hp,n⟩ ⟨G0 (G0 sl e r) d v,hp,n⟩ ⟨fun i=> ?_,rfl,rfl⟩ hf
   have hne:e≠d:=fun h=>hd (by rw [hjd,h])
   simp only [L2,he]
   split
   ·split
    ·rename_i h1 h2;exact(hne (h1.trans h2.symm)).elim
    ·rfl
   ·rfl
 unfold H7 at h⊢
 split at h
 ·have ha:D0 (B6f j.o) (upd s (some d) v) s:=fun i hi=>by
   simp only [upd,L2]
   rw [if_neg]
   rintro rfl
   exact hu (by simp [B2R,hi])
  rw [A0c ha rfl rfl]at h
  exact S4 (fun r hp n=>key s.sl r hp n _ fun _=>rfl) h
 ·rename_i jg want hg
  have hjg:jg≠d:=fun e=>hu (by simp [B2R,hg,e])
  have hget:E0 (upd s (some d) v).sl jg=E0 s.sl jg:=by simp only [upd,L2];rw [if_neg (fun e=>hjg e.symm)]
  rw [hget]at h
  have comm: ∀b,∀i,E0 (G0 (upd s (some d) v).sl jg b) i=E0 (G0 (G0 s.sl jg b) d v) i:=by
   intro b i
   simp only [upd,L2]
   split
   ·split
    ·rename_i h1 h2;exact(hjg (h1.trans h2.symm)).elim
    ·rfl
   ·rfl
  unfold stepG at h⊢
  split at h
  ·refine⟨fun hb=> ?_,fun hb=> ?_⟩
   ·have h1:=h.1 hb
    have ha:D0 (B6f j.o) ⟨G0 (upd s (some d) v).sl jg (.bool want),s.h,s.n⟩ ⟨G0 s.sl jg (.bool want),s.h,s.n⟩:=fun i hi=>by
     simp only [comm,L2]
     rw [if_neg]
     rintro rfl
     exact hu (by simp [B2R,hi])
    rw [show (upd s (some d) v).h=s.h from rfl,show (upd s (some d) v).n=s.n from rfl,A0c ha rfl rfl]at h1
    exact S4 (fun r hp n=>key (G0 s.sl jg (.bool want)) r hp n _ (comm _)) h1
   ·exact key (G0 s.sl jg (.bool !want)) _ _ _ _ (comm _) (h.2 hb)
  ·exact⟨h.1,key s.sl _ _ _ _ (fun _=>rfl) h.2⟩
  ·exact h
theorem B6a{ao:AO}{s:St}{k:Res}(h:A8 P PK ao s k):A8 P PK ao s fun r hp n=>k r hp n∧(keeps ao=true→hp=s.h):=by
 cases hk:keeps ao with
 |false=>exact S4 (fun r hp n hk=>⟨hk,fun h=>by cases h⟩) h
 | true=>
  cases ao<;>simp only [keeps]at hk<;>try (cases hk;done)
  case pcall=>
   obtain⟨r,h1,h2⟩:=h
   exact⟨r,h1,h2,fun _=>rfl⟩
  case eqn fn neg x=>
   have h:A6u fn neg (s.ev x) k s.h s.n:=h
   simp only [A8]
   unfold A6u at h⊢
   split at h
   ·exact⟨h,fun _=>rfl⟩
   ·exact⟨⟨h.1,fun _=>rfl⟩,fun e=>⟨h.2 e,fun _=>rfl⟩⟩
   ·exact⟨⟨h.1,fun _=>rfl⟩,fun e=>⟨h.2 e,fun _=>rfl⟩⟩
   ·exact⟨h,fun _=>rfl⟩
   ·exact⟨h,fun _=>rfl⟩
   ·exact h.elim
theorem C2x{j:AI}{s:St}{K:St→Prop}(hK:B0z K)(h:H7 P PK j s K):H7 P PK j s fun s2=>K s2∧(∀x,j.d≠some x→E0 s2.sl x=E0 s.sl x)∧(cls j.o≤1∨keeps j.o=true→s2.h=s.h):=by
 by_cases hc:cls j.o≤1
 ·obtain⟨pre,v,hf⟩:=B5m (P:=P) (PK:=PK) hc s
  have h1:=(hf s (fun _ _=>rfl) (.inr rfl) K hK).1 h
  refine(hf s (fun _ _=>rfl) (.inr rfl) _ ?_).2 ⟨h1.1,h1.2,fun x hx=> ?_,fun _=> ?_⟩
  ·rintro a b he ⟨q1,q2,q3⟩
   exact⟨hK _ _ he q1,fun x hx=>by rw [←he.1 x];exact q2 x hx,fun hc=>by rw [←he.2.1];exact q3 hc⟩
  ·cases hjd:j.d with
   |none=>rfl
   |some d=>
    simp only [upd,L2]
    rw [if_neg]
    rintro rfl
    exact hx hjd
  ·cases j.d<;>rfl
 ·have key: ∀(sl:List (Nat×V)) (r:V) (hp:A2) (n:Nat),(∀i,E0 sl i=E0 s.sl i)→(keeps j.o=true→hp=s.h)→fin j.d sl K r hp n→
    fin j.d sl (fun s2=>K s2∧(∀x,j.d≠some x→E0 s2.sl x=E0 s.sl x)∧(cls j.o≤1∨keeps j.o=true→s2.h=s.h)) r hp n:=by
   intro sl r hp n he hkp hf
   cases hjd:j.d with
   |none=>rw [hjd]at hf;exact⟨hf,fun x _=>he x,fun h=>h.elim (fun h=>(hc h).elim) hkp⟩
   |some d=>
    rw [hjd]at hf
    refine⟨hf,fun x hx=> ?_,fun h=>h.elim (fun h=>(hc h).elim) hkp⟩
    simp only [L2]
    rw [if_neg (fun e=>hx zm),he]
  unfold H7 at h⊢
  split at h
  ·exact S4 (fun r hp n hk=>key s.sl r hp n (fun _=>rfl) hk.2 hk.1) (B6a h)
  ·rename_i jg want _
   unfold stepG at h⊢
   split at h
   ·rename_i b hb
    refine⟨fun hbw=> ?_,fun hbw=> ?_⟩
    ·refine S4 (fun r hp n hk=>key _ r hp n (fun i=> ?_) hk.2 hk.1) (B6a (h.1 hbw))
     exact S3 (by rw [hb,hbw]) i
    ·exact key _ _ _ _ (fun i=>S3 (by rw [hb,hbw]) i) (fun _=>rfl) (h.2 hbw)
   ·exact⟨h.1,key s.sl _ _ _ (fun _=>rfl) (fun _=>rfl) h.2⟩
   ·exact h
def C3m(d:Option Nat)(l:List Nat):Bool:=
 match d with
 |some d=> !l.contains d
 |none=>true
def apart:Option Nat→Option Nat→Bool
 |some a,some b=> !(a==b)
 |_,_=>true
def A6B(a i:AI):Bool:=Nat.ble (cls a.o) 1&&(Nat.beq (cls a.o) 0||(Nat.ble (cls i.o) 1||keeps i.o))&&C3m a.d (B2R i)&&apart a.d i.d&&C3m i.d (B2R a)
theorem D7x{a i:AI}{s:St}{K:St→Prop}(hok:A6B a i=true)(hK:B0z K)(h:H7 P PK a s fun s1=>H7 P PK i s1 K):H7 P PK i s fun s2=>H7 P PK a s2 K:=by
 unfold A6B at hok
 simp only [Bool.and_eq_true]at hok
 obtain⟨⟨⟨⟨h1,h2⟩,h3⟩,h4⟩,h5⟩:=hok
 have hc:=Nat.le_of_ble_eq_true h1
 obtain⟨pre,v,hf⟩:=B5m (P:=P) (PK:=PK) hc s
 have hK1:B0z fun s1=>H7 P PK i s1 K:=fun _ _ he hk=>B5Z hK he hk
 obtain⟨hpre,hi⟩:=(hf s (fun _ _=>rfl) (.inr rfl) _ hK1).1 h
 have hi2:H7 P PK i s fun s2=>K (upd s2 a.d v):=by
  cases had:a.d with
  |none=>rw [had]at hi;exact hi
  | some d=>
   rw [had]at hi h3 h4
   refine D2i hK ?_ ?_ hi
   ·simpa [C3m]using h3
   ·intro he
    rw [he]at h4
    simp [apart]at h4
 have hKu:B0z fun s2=>K (upd s2 a.d v):=by
  intro x y he hk
  refine hK _ _ ?_ hk
  cases a.d with
  |none=>exact he
  |some d=>exact⟨fun q=>A3H he.1 d v q,he.2.1,he.2.2⟩
 refine A3I ?_ (C2x hKu hi2)
 rintro s2 ⟨q1,q2,q3⟩
 refine(hf s2 (fun x hx=>(q2 x fun e=> ?_).symm) ?_ K hK).2 ⟨hpre,q1⟩
 ·rw [e]at h5
  simp [C3m]at h5
  exact h5 hx
 ·rcases Bool.or_eq_true _ _ ▸ h2 with h|h
  ·exact .inl (Nat.eq_of_beq_eq_true h)
  ·exact .inr (q3 ((Bool.or_eq_true _ _ ▸ h).imp Nat.le_of_ble_eq_true id))
theorem B7o(f:Nat→AI){K:St→Prop}(hK:B0z K)(i:Nat)(B:List Nat): ∀(A:List Nat) (s:St),(∀a∈A,A6B (f a) (f i)=true)→A7K P PK ((A++i::B).map f) s K→A7K P PK ((i::(A++B)).map f) s K
 | [],_,_,h=>h
 | a::A,s,hok,h=>by
  have h1:H7 P PK (f a) s fun s1=>H7 P PK (f i) s1 fun s2=>A7K P PK ((A++B).map f) s2 K:=
   A3I (fun s1 h1=>B7o f hK i B A s1 (fun x hx=>hok x (by simp [hx])) h1) h
  exact D7x (hok a zg) (B6y hK) h1
theorem C3r(f:Nat→AI)(anc:Nat→Nat→Prop){K:St→Prop}(hK:B0z K): ∀(l T:List Nat) (s:St),T.Nodup→l.Perm T→T.Pairwise (fun a i=>A6B (f a) (f i)=true∨anc a i)→l.Pairwise (fun i a=> ¬anc a i)→
  A7K P PK (T.map f) s K→A7K P PK (l.map f) s K
 | [],T,s,_,hp,_,_,h=>by
  have:T= []:=hp.symm.eq_nil
  subst this
  exact h
 | i::l,T,s,hn,hp,hT,hl,h=>by
  have hi:i∈T:=hp.subset zg
  obtain⟨A,B,rfl⟩:=List.append_of_mem hi
  have hp':l.Perm (A++B):=by
   have:(i::l).Perm (i::(A++B)):=hp.trans List.perm_middle
   exact this.cons_inv
  have hl':=List.pairwise_cons.1 hl
  have hok: ∀a∈A,A6B (f a) (f i)=true:=by
   intro a ha
   have hTA:=(List.pairwise_append.1 hT).2.2 a ha i zg
   rcases hTA with h|h
   ·exact h
   ·exact(hl'.1 a (hp'.symm.subset (by simp [ha])) h).elim
  have h1:=B7o f hK i B A s hok h
  refine A3I (fun s1 h1=>C3r f anc hK l (A++B) s1 ?_ hp' ?_ hl'.2 h1) h1
  ·exact(List.perm_middle.nodup_iff.1 hn).of_cons
  ·exact hT.sublist zg
theorem B0U: ∀(l r:List Nat),l.Nodup→(∀x∈l,x∈r)→r.length≤l.length→l.Perm r
 | [],r,_,_,h=>by
  have:r= []:=List.eq_nil_of_length_eq_zero zp
  subst this;exact .nil
 | x::l,r,hn,hs,hl=>by
  obtain⟨h1,h2⟩:=List.nodup_cons.1 hn
  obtain⟨A,B,rfl⟩:=List.append_of_mem (hs x zg)
  have:=B0U l (A++B) h2 (fun y hy=>by
   have:=hs y (by simp [hy])
   simp only [List.mem_append,List.mem_cons]at this⊢
   rcases this with h|rfl|h
   ·exact .inl h
   ·exact(h1 hy).elim
   ·exact .inr h) (by simp at hl⊢;omega)
  exact(this.cons x).trans List.perm_middle.symm
theorem C0b: ∀(l r:List Nat),l.Nodup→(∀x∈l,x∈r)→l.length≤r.length
 | [],_,_,_=>Nat.zero_le _
 | x::l,r,hn,hs=>by
  obtain⟨h1,h2⟩:=List.nodup_cons.1 hn
  obtain⟨A,B,rfl⟩:=List.append_of_mem (hs x zg)
  have:=C0b l (A++B) h2 (fun y hy=>by
   have:=hs y (by simp [hy])
   simp only [List.mem_append,List.mem_cons]at this⊢
   rcases this with h|rfl|h
   ·exact .inl h
   ·exact(h1 hy).elim
   ·exact .inr h)
  simp at this⊢;omega
def B4v(m:Region.Mode)(ops:Array Oper)(a i:Nat):Prop:= ∃o e,ops[i]? =some o∧e∈o.after∧Region.binds m e=true∧e.on=a
inductive Anc (m:Region.Mode) (ops:Array Oper):Nat→Nat→Prop
 |one {a i:Nat} (h:B4v m ops a i):Anc m ops a i
 |more {a b i:Nat} (h:B4v m ops b i) (h':Anc m ops a b):Anc m ops a i
def H3(m:Region.Mode)(ops:Array Oper):List Nat→Prop
 | []=>True
 |i::t=>(∀a,B4v m ops a i→a∈t)∧H3 m ops t
theorem H3.tail{m:Region.Mode}{ops:Array Oper}: ∀{t1 t2:List Nat},H3 m ops (t1++t2)→H3 m ops t2
 | [],_,h=>h
 |_::_,_,h=>H3.tail h.2
theorem H3.anc{m:Region.Mode}{ops:Array Oper}{a i:Nat}(h:Anc m ops a i): ∀{t:List Nat},H3 m ops (i::t)→a∈t:=by
 induction h with
 |one h=>intro t ht;exact ht.1 _ h
 |more h _ ih=>
  intro t ht
  obtain⟨t1,t2,rfl⟩:=List.append_of_mem (ht.1 _ h)
  have:=ih (H3.tail ht.2)
  simp [this]
theorem H3.pairwise{m:Region.Mode}{ops:Array Oper}: ∀{t:List Nat},H3 m ops t→t.Nodup→t.Pairwise fun a i=> ¬Anc m ops a i
 | [],_,_=> .nil
 |x::t,h,hn=>by
  obtain⟨h1,h2⟩:=List.nodup_cons.1 hn
  refine .cons (fun y hy hanc=> ?_) (H3.pairwise h.2 h2)
  obtain⟨t1,t2,rfl⟩:=List.append_of_mem hy
  have:=H3.anc hanc (H3.tail h.2)
  exact h1 (by simp [this])
structure LInv(m:Region.Mode)(ops:Array Oper)(listed:Array Bool)(acc:List Nat):Prop where
 size:listed.size=ops.size
 nodup:acc.Nodup
 mem: ∀i,i∈acc↔listed[i]? =some true
 before:H3 m ops acc
theorem C2Z{m:Region.Mode}{ops:Array Oper}{T:List Nat}(hT:H3 m ops T)(hTm: ∀i,i<ops.size→i∈T)(hTl: ∀i∈T,i<ops.size): ∀(fuel t:Nat) (listed:Array Bool) (acc:List Nat),LInv m ops listed acc→acc.length+fuel=ops.size→
  ∃acc',Region.linearise.go m ops fuel t listed acc=acc'.reverse∧acc'.Nodup∧H3 m ops acc'∧acc'.length=ops.size∧ ∀i∈acc',i<ops.size
 |0,t,listed,acc,hi,hl=>by
  refine⟨acc,rfl,hi.nodup,hi.before,by simpa using hl,fun i h=> ?_⟩
  exact Kv
 | fuel+1,t,listed,acc,hi,hl=>by
  have hmem: ∀i∈acc,i<ops.size:=fun i h=>by
   exact Kv
  simp only [Region.linearise.go]
  generalize hrs:((List.range ops.size).filter fun i=> !listed.getD i true&&((ops[i]?).map (·.after.all fun e=> !Region.binds m e||listed.getD e.on false)).getD false)=rs
  have hin: ∀i,i∈rs↔i<ops.size∧listed[i]? =some false∧ ∀o,ops[i]? =some o→ ∀e∈o.after,Region.binds m e=true→listed[e.on]? =some true:=by
   intro i
   rw [←hrs,List.mem_filter,List.mem_range]
   refine and_congr_right fun hlt=> ?_
   have hs:i<listed.size:=by rw [hi.size];exact hlt
   rw [Bool.and_eq_true]
   have e1:(!listed.getD i true)=true↔listed[i]? =some false:=by
    simp only [Array.getD_eq_getD_getElem?,Array.getElem?_eq_getElem hs,Option.getD_some]
    cases listed[i]<;>simp
   rw [e1]
   refine and_congr_right fun _=> ?_
   simp only [Array.getElem?_eq_getElem hlt,Option.map_some,Option.getD_some,Array.all_eq_true']
   constructor
   ·rintro h o ho e he hb
    injection ho with ho
    subst ho
    have:=h e he
    rw [hb]at this
    simp only [Bool.not_true,Bool.false_or,Array.getD_eq_getD_getElem?]at this
    cases hq:listed[e.on]? with
    |none=>rw [hq]at this;cases this
    |some b=>rw [hq]at this;simp at this;rw [this]
   ·intro h e he
    cases hb:Region.binds m e with
    |false=>rfl
    |true=>simp [Array.getD_eq_getD_getElem?,h _ rfl e he hb]
  have hne:rs≠ []:=by
   intro h0
   have hsub: ∀t:List Nat,H3 m ops t→(∀i∈t,i<ops.size)→ ∀i∈t,i∈acc:=by
    intro t
    induction t with
    |nil=>intro _ _ i hi;cases hi
    | cons i t ih=>
     intro hb hl x hx
     have ih':=ih hb.2 fun y hy=>hl y (List.mem_cons_of_mem _ hy)
     rcases List.mem_cons.1 hx with rfl|hx
     ·have hlt:=hl x List.mem_cons_self
      have hs:x<listed.size:=by rw [hi.size];exact hlt
      cases hbb:listed[x]with
      |true=>exact(hi.mem x).2 (by rw [Array.getElem?_eq_getElem hs,hbb])
      |false=>
       have:x∈rs:=(hin x).2 ⟨hlt,by rw [Array.getElem?_eq_getElem hs,hbb],fun o ho e he hbe=>(hi.mem _).1 (ih' _ (hb.1 _ ⟨o,e,ho,he,hbe,rfl⟩))⟩
       rw [h0]at this
       cases this
     ·exact ih' x hx
   have hall: ∀i,i<ops.size→i∈acc:=fun i hlt=>hsub T hT hTl i (hTm i hlt)
   have hle:(List.range ops.size).length≤acc.length:=C0b _ _ List.nodup_range fun i h=>hall i zp
   simp at hle
   omega
  have hpos:0<rs.length:=List.length_pos_iff.2 hne
  have hlt:=Nat.mod_lt t hpos
  rw [List.getElem?_eq_getElem hlt]
  generalize hpick:rs[t%rs.length]=i
  have hi':=(hin i).1 (hpick ▸ List.getElem_mem hlt)
  obtain⟨h1,h2,h3⟩:=hi'
  have hnot:i∉acc:=fun h=>by have:=(hi.mem i).1 h;rw [h2]at this;cases this
  refine C2Z hT hTm hTl fuel _ _ _ ⟨by simp [hi.size],List.nodup_cons.2 ⟨hnot,hi.nodup⟩,fun j=> ?_,fun a ⟨o,e,ho,he,hb,hon⟩=> ?_,hi.before⟩ zr
  ·rw [List.mem_cons,hi.mem,Array.getElem?_setIfInBounds]
   constructor
   ·rintro(rfl|h)
    ·rw [if_pos rfl,if_pos (by rw [hi.size];exact h1)]
    ·split
     ·rename_i hij;rw [←hij,h2]at h;cases h
     ·exact h
   ·intro h
    split at h
    ·rename_i hij;exact .inl hij.symm
    ·exact .inr h
  ·rw [←hon]
   exact(hi.mem _).2 (h3 o ho e he hb)
theorem B5n{m:Region.Mode}{ops:Array Oper}{T:List Nat}(hT:H3 m ops T)(hTm: ∀i,i<ops.size→i∈T)(hTl: ∀i∈T,i<ops.size)(t:Nat):(Region.linearise m ops t).Perm (List.range ops.size)∧(Region.linearise m ops t).Pairwise fun i a=> ¬Anc m ops a i:=by
 have h0: ∀i,i∈([]:List Nat)↔(Array.replicate ops.size false)[i]? =some true:=fun i=>by
  simp only [List.not_mem_nil,false_iff]
  intro h
  rw [Array.getElem?_replicate]at h
  split at h
  ·simp at h
  ·cases h
 obtain⟨acc,h1,h2,h3,h4,h5⟩:=C2Z hT hTm hTl ops.size t (Array.replicate ops.size false) [] ⟨by simp,.nil,h0,trivial⟩ zg
 rw [Region.linearise,h1]
 constructor
 ·refine(List.reverse_perm acc).trans ?_
  exact B0U _ _ h2 (fun i hi=>by simpa using h5 i hi) (by simp [h4])
 ·rw [List.pairwise_reverse]
  exact h3.pairwise h2
def B4d(m:Region.Mode)(ops:Array Oper):List Nat→Bool
 | []=>true
 |i::t=>(match ops[i]? with|some o=>o.after.toList.all fun e=> !(Region.binds m e)||t.any (Nat.beq e.on)|none=>true)&&B4d m ops t
theorem A2H{m:Region.Mode}{ops:Array Oper}: ∀{t:List Nat},B4d m ops t=true→H3 m ops t
 | [],_=>trivial
 |i::t,h=>by
  simp only [B4d,Bool.and_eq_true]at h
  refine⟨?_,A2H h.2⟩
  rintro a ⟨o,e,ho,he,hb,rfl⟩
  have h1:=h.1
  rw [ho]at h1
  simp only [List.all_eq_true]at h1
  have h2:=h1 e (Array.mem_toList_iff.2 he)
  rw [hb]at h2
  simp only [Bool.not_true,Bool.false_or,List.any_eq_true]at h2
  obtain⟨x,hx,hx2⟩:=h2
  rw [Nat.eq_of_beq_eq_true hx2];exact hx
inductive AncE (m:Region.Mode) (ops:Array Oper) (E:List (Nat×Nat)):Nat→Nat→Prop
 |one {a i:Nat} (h:B4v m ops a i∨(a,i)∈E):AncE m ops E a i
 |more {a b i:Nat} (h:B4v m ops b i∨(b,i)∈E) (h':AncE m ops E a b):AncE m ops E a i
def B3F:List (Nat×Nat)→Nat→Nat
 | [],_=>0
 |p::r,i=>bif Nat.beq p.1 i then p.2 else B3F r i
def B9V(tab:List (Nat×Nat)):List Nat→Nat
 | []=>0
 |b::r=>(2^b|||B3F tab b)|||B9V tab r
def D0T(m:Region.Mode)(ops:Array Oper)(E:List (Nat×Nat))(i:Nat):List Nat:=
 (match ops[i]? with|some o=>(o.after.toList.filter (Region.binds m)).map (·.on)|none=> [])++(E.filter fun p=>Nat.beq p.2 i).map (·.1)
def B2d(m:Region.Mode)(ops:Array Oper)(E:List (Nat×Nat)):List Nat→List (Nat×Nat)→List (Nat×Nat)
 | [],tab=>tab
 |i::r,tab=>B2d m ops E r ((i,B9V tab (D0T m ops E i))::tab)
def C1e(tab:List (Nat×Nat))(a i:Nat):Bool:=Nat.testBit (B3F tab i) a
theorem B3G{m:Region.Mode}{ops:Array Oper}{E tab:List (Nat×Nat)}(ht: ∀i a,(B3F tab i).testBit a=true→AncE m ops E a i){i:Nat}: ∀{l:List Nat},(∀b∈l,B4v m ops b i∨(b,i)∈E)→ ∀a,(B9V tab l).testBit a=true→AncE m ops E a i
 | [],_,a,h=>by simp [B9V]at h
 | b::r,hl,a,h=>by
  simp only [B9V,Nat.testBit_or,Bool.or_eq_true]at h
  rcases h with(h|h)|h
  ·rw [Nat.testBit_two_pow]at h
   have:b=a:=by simpa using h
   subst this
   exact .one (hl b List.mem_cons_self)
  ·exact .more (hl b List.mem_cons_self) (ht b a h)
  ·exact B3G ht (fun x hx=>hl x (List.mem_cons_of_mem _ hx)) a h
theorem B3H{m:Region.Mode}{ops:Array Oper}{E:List (Nat×Nat)}: ∀(T:List Nat) {tab:List (Nat×Nat)},(∀i a,(B3F tab i).testBit a=true→AncE m ops E a i)→ ∀i a,(B3F (B2d m ops E T tab) i).testBit a=true→AncE m ops E a i
 | [],_,h=>h
 | x ::r,tab,h=>B3H r fun i a hi=>by
  simp only [B3F]at hi
  cases hb:Nat.beq x i with
  |false=>rw [hb]at hi;exact h i a hi
  | true=>
   have:=Nat.eq_of_beq_eq_true hb
   subst this
   rw [hb,cond_true]at hi
   refine B3G h (fun b hb=> ?_) a hi
   unfold D0T at hb
   rcases List.mem_append.1 hb with hb|hb
   ·split at hb
    ·rename_i o ho
     obtain⟨e,he,rfl⟩:=List.mem_map.1 hb
     obtain⟨h1,h2⟩:=List.mem_filter.1 he
     exact .inl ⟨o,e,ho,Array.mem_toList_iff.1 h1,h2,rfl⟩
    ·cases hb
   ·obtain⟨p,hp,rfl⟩:=List.mem_map.1 hb
    obtain⟨h1,h2⟩:=List.mem_filter.1 hp
    have:=Nat.eq_of_beq_eq_true h2
    rw [←this]
    exact .inr h1
theorem B0A{m:Region.Mode}{ops:Array Oper}{E:List (Nat×Nat)}{T:List Nat}{a i:Nat}(h:C1e (B2d m ops E T []) a i=true):AncE m ops E a i:=
 B3H T (fun i a h=>by simp [B3F]at h) i a h
theorem AncE.anc{m:Region.Mode}{ops:Array Oper}{a i:Nat}(h:AncE m ops [] a i):Anc m ops a i:=by
 induction h with
 |one h=>exact .one (h.resolve_right zg)
 |more h _ ih=>exact .more (h.resolve_right zg) ih
def pos(x:Nat):List Nat→Nat
 | []=>0
 |a::r=>bif Nat.beq a x then 0 else pos x r+1
theorem B2r: ∀{l:List Nat},l.Nodup→l.Pairwise fun x y=>pos x l<pos y l
 | [],_=> .nil
 | a::r,h=>by
  obtain⟨h1,h2⟩:=List.nodup_cons.1 h
  have ne: ∀y∈r,Nat.beq a y=false:=fun y hy=>by
   cases hb:Nat.beq a y with
   |false=>rfl
   |true=>exact(h1 (Nat.eq_of_beq_eq_true hb ▸ hy)).elim
  refine .cons (fun y hy=> ?_) ?_
  ·simp only [pos,Nat.beq_refl,cond_true,ne y hy,cond_false]
   omega
  ·refine(B2r h2).imp_of_mem fun hx hy hxy=> ?_
   simp only [pos,ne _ hx,ne _ hy,cond_false]
   omega
def A8R(l:List Nat)(p:Nat×Nat):Nat×Nat:=bif Nat.blt (pos p.1 l) (pos p.2 l)then p else(p.2,p.1)
def A6C:List (Nat×Nat)→List (List (Nat×Nat))
 | []=> [[]]
 |p::r=>(A6C r).map (p:: ·)++(A6C r).map ((p.2,p.1):: ·)
theorem A8S(l:List Nat): ∀(C:List (Nat×Nat)),C.map (A8R l)∈A6C C
 | []=>by simp [A6C]
 |p::r=>by
  simp only [A6C,List.map_cons,List.mem_append,List.mem_map]
  cases hb:Nat.blt (pos p.1 l) (pos p.2 l)with
  |true=>exact .inl ⟨_,A8S l r,by simp [A8R,hb]⟩
  |false=>exact .inr ⟨_,A8S l r,by simp [A8R,hb]⟩
theorem C4T{l:List Nat}{p:Nat×Nat}(hne:pos p.1 l≠pos p.2 l):pos (A8R l p).1 l<pos (A8R l p).2 l:=by
 unfold A8R
 cases hb:Nat.blt (pos p.1 l) (pos p.2 l)with
 |true=>exact Nat.le_of_ble_eq_true hb
 | false=>
  have: ¬pos p.1 l<pos p.2 l:=fun h=>by
   have:=Nat.ble_eq_true_of_le (show pos p.1 l+1≤pos p.2 l from h)
   rw [Nat.blt,this]at hb
   cases hb
  simp only [cond_false]
  omega
theorem C7q{l:List Nat}{x y:Nat}(hx:x∈l)(hxy:x≠y)(hn:l.Nodup):pos x l≠pos y l:=by
 induction l with
 |nil=>cases hx
 | cons a r ih=>
  obtain⟨h1,h2⟩:=List.nodup_cons.1 hn
  simp only [pos]
  by_cases ha:a=x
  ·subst ha
   have:Nat.beq a y=false:=by
    cases hb:Nat.beq a y with
    |false=>rfl
    |true=>exact(hxy (Nat.eq_of_beq_eq_true hb)).elim
   rw [Nat.beq_refl,this];simp
  ·have hax:Nat.beq a x=false:=by
    cases hb:Nat.beq a x with
    |false=>rfl
    |true=>exact(ha (Nat.eq_of_beq_eq_true hb)).elim
   rw [hax]
   have hx':x∈r:=by
    rcases List.mem_cons.1 hx with h|h
    ·exact(ha h.symm).elim
    ·exact h
   cases hb:Nat.beq a y with
   |true=>simp
   |false=>simpa using ih hx' h2
end
end Go.Abs
namespace Go.Abs
variable {PK:R8}
instance:Inhabited AI:=⟨⟨none,none,.bad⟩⟩
def A8b(P:Program)(B N:Nat)(ops:Array Oper):List Oper→Option (List AI)
 | []=>some []
 |o::r=>match B9l P B N ops o,A8b P B N ops r with
  |some i,some is=>some (i::is)
  |_,_=>none
def B1x(m:Region.Mode)(ops:Array Oper)(extra:List (Nat×Nat))(light:Nat→Bool):Nat→List Nat→List Nat→List Nat
 |0,_,acc=>acc.reverse
 | fuel+1,todo,acc=>
  let ready:=todo.filter fun i=>(match ops[i]? with
   |some o=>o.after.toList.all fun e=> !(Region.binds m e)||acc.any (Nat.beq e.on)
   |none=>false)&&extra.all fun p=> !(Nat.beq p.2 i)||acc.any (Nat.beq p.1)
  match (ready.find? light).orElse fun _=>ready.head? with
  |some i=>B1x m ops extra light fuel (todo.filter fun j=> !(Nat.beq j i)) (i::acc)
  |none=>acc.reverse
def B3a(f:Nat→AI)(anc:Nat→Nat→Bool):List Nat→List (Nat×Nat)
 | []=> []
 |a::r=>((r.filter fun i=> !(A6B (f a) (f i)||anc a i)).map fun i=>(a,i))++B3a f anc r
def B4P(anc:Nat→Nat→Bool)(E:List (Nat×Nat)):Bool:=E.any fun p=>E.any fun q=>Nat.beq p.2 q.1&&(anc q.2 p.1||E.any fun r=>Nat.beq q.2 r.1&&(Nat.beq r.2 p.1||anc r.2 p.1))
def B2p(f:Nat→AI)(anc:Nat→Nat→Bool):List Nat→Bool
 | []=>true
 |a::r=>(r.all fun i=>A6B (f a) (f i)||anc a i)&&B2p f anc r
def B8s:List Nat→Bool
 | []=>true
 |a::r=> !(r.any (Nat.beq a))&&B8s r
def B6i(n:Nat)(T:List Nat):Bool:=B8s T&&(Nat.beq T.length n&&T.all fun i=>Nat.blt i n)
def A3A(f:Nat→AI)(m:Region.Mode)(ops:Array Oper):Option (List (List Nat)):=
 let light:=fun i=>Nat.ble (cls (f i).o) 1
 let T0:=B1x m ops [] light ops.size (List.range ops.size) []
 let anc:=C1e (B2d m ops [] T0 [])
 let C:=B3a f anc T0
 let Es:=(A6C C).filter fun E=> !B4P anc E
 let Ts:=Es.map fun E=>B1x m ops E light ops.size (List.range ops.size) []
 if (B6i ops.size T0&&B4d m ops T0.reverse)&&(Nat.ble C.length 8&&((C.all fun p=>Nat.blt p.1 ops.size&&Nat.blt p.2 ops.size&& !(Nat.beq p.1 p.2))&&
  ((Es.zip Ts).all fun q=>B6i ops.size q.2&&B2p f (C1e (B2d m ops q.1 q.2 [])) q.2)))
 then some Ts else none
def C6n:List Nat→List Nat→Bool
 | [],[]=>true
 |a::r,b::s=>Nat.beq a b&&C6n r s
 |_,_=>false
def B0J(P:Program)(B N:Nat)(ops:Array Oper)(draw:Bool):Option (List (List AI)):=
 match A8b P B N ops ops.toList with
 |none=>none
 | some is=>
  if draw then
   let f:=fun i=>is.getD i default
   if P.follows .mixedOrders|| !Region.departs ops then(A3A f .any ops).map fun Ts=>Ts.map fun T=>T.map f
   else match A3A f .text ops,A3A f .gc ops with
    |some Ts,some Us=>some ((Ts++Us.filter fun U=> !(Ts.any (C6n U))).map fun T=>T.map f)
    |_,_=>none
  else some [is]
def B8a(P:Program)(N:Nat)(ops:Array Oper)(draw:Bool):Option Nat:=
 match draw,ops.toList with
 |false,[o0,o1]=>match o0.op,o1.op,o0.dst with
  | .makeFunc (.func f) first _,.defer q,some d=>bif first.isEmpty&&(B3D o0 d&&((match q.callee with| .value (.tmp i)=>Nat.beq i d|_=>false)&&(o1.dst.isNone&&(o1.guard.isNone&&(q.args.isEmpty&&(Nat.blt d N&&(M4 P f&&B8x P f)))))))then some d else none
  |_,_,_=>none
 |_,_=>none
abbrev A9O:Nat:=999999999
def Q7(P:Program)(B N:Nat):Code→Option AC
 | .skip=>some .skip
 | .label _=>some .skip
 | .region _ ops draw=>match B8a P N ops draw with
  |some d=>some (.dfr d)
  |none=>match B0J P B N ops draw with
   |some l=>some (.ops l)
   |none=>some .bad
 | .seq a b=>match Q7 P B N a,Q7 P B N b with
  |some a,some b=>some (.seq a b)
  |_,_=>none
 | .cond c a b=>match C3 c,Q7 P B N a,Q7 P B N b with
  |some c,some a,some b=>some (.cond c a b)
  |_,_,_=>none
 | .block id a=>(Q7 P B N a).map (.block id)
 | .loop a=>(Q7 P B N a).map .loop
 | .scope a=>(Q7 P B N a).map (.block A9O)
 | .exit id=>some (.exit id)
 | .ret=>some .ret
 | .rangeFunc g ps a b=>match C3 g,Q7 P B N a,Q7 P B N b with
  |some g,some a,some b=>if ps.toList.all (Nat.blt · N)then some (.rng (B+9000+ps.toList.headD 0) g ps.toList a b)else some .bad
  |_,_,_=>none
 |_=>some .bad
inductive RV where
 |t (i:Nat)
 |c (i n:Nat) (agg:Bool)
def A5c(P:Program):List ResultVar→Option (List RV)
 | []=>some []
 | .tmp i::r=>(A5c P r).map (.t i:: ·)
 | .cell i t::r=>match A9W P t,A5c P r with
  |some (n,a),some rs=>some (.c i n a::rs)
  |_,_=>none
structure Cx where
 P:Program
 fn:Func
 N:Nat
 Q:Res
 bs:Option Nat
 rd:Option (Nat×Nat)
 pk:Option R8
def C0k:Option R8→R8
 |some p=>p
 |none=>D0R
def A7D(s:St):List RV→Option (List V)
 | []=>some []
 | .t i::r=>(A7D s r).map (E0 s.sl i:: ·)
 | .c i n agg::r=>match A8v s.h (E0 s.sl i) n agg,A7D s r with
  |some v,some vs=>some (v::vs)
  |_,_=>none
def B2i:List V→V
 | [v]=>v
 |vs=> .tup vs
def C9B(c:Cx)(rs:List RV)(s:St):Prop:=
 match A7D s rs with
 |some vs=>c.Q (B2i vs) s.h s.n
 |none=>False
inductive RelL (P:Program) (N:Nat):List AItem→List Item→Prop
 |nil:RelL P N [] []
 |code {B:Nat} {ac:AC} {c:Code} {k:List AItem} {k':List Item} (h:Q7 P B N c=some ac) (hk:RelL P N k k'):RelL P N (.code ac::k) (.code c::k')
 |blk {id:Nat} {k:List AItem} {k':List Item} (hk:RelL P N k k'):RelL P N (.blk id::k) (.inBlock id::k')
 |scp {c:Code} {k:List AItem} {k':List Item} (hk:RelL P N k k'):RelL P N (.blk A9O::k) (.inScope c::k')
 |lp {B:Nat} {ac:AC} {c:Code} {k:List AItem} {k':List Item} (h:Q7 P B N c=some ac) (hk:RelL P N k k'):RelL P N (.lp ac::k) (.inLoop c::k')
 |beg {k:List AItem} {k':List Item} (hk:RelL P N k k'):RelL P N (.beg::k) (.beginRound::k')
def C3J(rd:Option (Nat×Nat))(n:Nat)(ρ:Nat→Loc)(b:Frame):Prop:=
 match rd with
 |none=>b.roundOf=none
 |some q=>q.2<n∧b.roundOf=some (ρ q.2).blk∧b.kind= .normal
theorem C3J.mono{rd:Option (Nat×Nat)}{n n':Nat}{ρ ρ':Nat→Loc}{b:Frame}(hn:n≤n')(hρ: ∀st,st<n→ρ' st=ρ st)(h:C3J rd n ρ b):C3J rd n' ρ' b:=by
 cases rd with
 |none=>exact h
 |some q=>exact⟨Nat.lt_of_lt_of_le h.1 hn,by rw [hρ _ h.1];exact h.2.1,h.2.2⟩
def B6j(c:Cx)(O:Nat→Prop)(E:Env)(m:Machine)(b:Frame)(cs:List Frame):Prop:=
 match c.rd with
 | none=>(∃todo a' w' ρ',∃(s':St) (rs:List RV),Steps c.P m (lone {b.atR a' todo with mode:= .returning} cs w')∧HeapR w' O ρ' s'.n s'.h∧Sim c.P c.bs c.N (A4 w' O ρ' s'.n s'.h) s'.sl a'∧
   Ext E (A4 w' O ρ' s'.n s'.h)∧A5c c.P c.fn.results.toList=some rs∧C9B c rs s')∨
   ∃x ρ' h' n' a' w' todo,HeapR w' O ρ' n' h'∧Ext E (A4 w' O ρ' n' h')∧(c.bs=none→a'.defers= [])∧C0k c.pk x h' n'∧Steps c.P m (lone {b.atR a' todo with mode:= .panicking [{v:=x,recovered:=false}]} cs w')
 |some _=> ∀c0 cs',cs=c0::cs'→ ∃w' ρ' h' n' v r,Steps c.P m (lone (c0.finish v) cs' w')∧HeapR w' O ρ' n' h'∧R (A4 w' O ρ' n' h') r v∧Ext E (A4 w' O ρ' n' h')∧c.Q r h' n'
def OK(c:Cx)(k:List AItem)(s:St):Prop:=
 ∀O ρ a w k' b cs,HeapR w O ρ s.n s.h→Sim c.P c.bs c.N (A4 w O ρ s.n s.h) s.sl a→C3J c.rd s.n ρ b→RelL c.P c.N k k'→B6j c O (A4 w O ρ s.n s.h) (lone (b.atR a k') cs w) b cs
section
variable {c:Cx} {k:List AItem} {s:St}
theorem B6j.step{O:Nat→Prop}{E E':Env}{m m':Machine}{b:Frame}{cs:List Frame}(hs:Steps c.P m m')(hx:Ext E E')(h:B6j c O E' m' b cs):B6j c O E m b cs:=by
 unfold B6j at h⊢
 split at h
 ·rcases h with⟨todo,a',w',ρ',s',rs,h1,h2,h3,h4,h5,h6⟩|⟨x,ρ',h',n',a',w',todo,h1,h2,h3,h4,h5⟩
  ·exact .inl ⟨todo,a',w',ρ',s',rs,hs.trans h1,h2,h3,hx.trans h4,h5,h6⟩
  ·exact .inr ⟨x,ρ',h',n',a',w',todo,h1,hx.trans h2,h3,h4,hs.trans h5⟩
 ·intro c0 cs' e
  obtain⟨w',ρ',h',n',v,r,h1,h2,h3,h4,h5⟩:=h c0 cs' e
  exact⟨w',ρ',h',n',v,r,hs.trans h1,h2,h3,hx.trans h4,h5⟩
theorem OK.resp:B0z (OK c k):=by
 rintro s s' ⟨h1,h2,h3⟩ h O ρ a w k' b cs hr hs hd hk
 rw [←h2,←h3]at hr hs⊢
 rw [←h3]at hd
 exact h O ρ a w k' b cs hr ⟨hs.size,hs.base,hs.defers,fun i=>by rw [h1];exact hs.slot i⟩ hd hk
theorem OK.skip(h:OK c k s):OK c (.code .skip::k) s:=by
 intro O ρ a w k' b cs hr hs hd hk
 cases hk with
 |code hc hk=>
  rename_i cd _
  cases cd<;>simp only [Q7]at hc<;>try (cases hc;done)
  case skip=>exact(h O ρ a w _ b cs hr hs hd hk).step (.one stepR_skip) (Ext.refl _)
  case label=>exact(h O ρ a w _ b cs hr hs hd hk).step (.one stepR_label) (Ext.refl _)
  case region id ops draw=>split at hc<;>first|(cases hc;done)|(split at hc<;>cases hc)
  case seq x y=>split at hc<;>cases hc
  case cond x y z=>split at hc<;>cases hc
  case block id x=>rw [Option.map_eq_some_iff]at hc;obtain⟨_,_,hc⟩:=hc;cases hc
  case scope x=>rw [Option.map_eq_some_iff]at hc;obtain⟨_,_,hc⟩:=hc;cases hc
  case loop x=>rw [Option.map_eq_some_iff]at hc;obtain⟨_,_,hc⟩:=hc;cases hc
  case rangeFunc g ps x y=>split at hc<;>first|(cases hc;done)|(split at hc<;>cases hc)
theorem OK.seq{x y:AC}(h:OK c (.code x:: .code y::k) s):OK c (.code (.seq x y)::k) s:=by
 intro O ρ a w k' b cs hr hs hd hk
 cases hk with
 | code hc hk=>
  rename_i cd _
  cases cd<;>simp only [Q7]at hc<;>try (cases hc;done)
  case seq x y=>
   split at hc
   ·rename_i x' y' hx hy
    injection hc with hc
    injection hc with e1 e2
    subst e1;subst e2
    exact(h O ρ a w _ b cs hr hs hd (.code hx (.code hy hk))).step (.one stepR_seq) (Ext.refl _)
   ·cases hc
  case region id ops draw=>split at hc<;>first|(cases hc;done)|(split at hc<;>cases hc)
  case cond x y z=>split at hc<;>cases hc
  case block id x=>rw [Option.map_eq_some_iff]at hc;obtain⟨_,_,hc⟩:=hc;cases hc
  case scope x=>rw [Option.map_eq_some_iff]at hc;obtain⟨_,_,hc⟩:=hc;cases hc
  case loop x=>rw [Option.map_eq_some_iff]at hc;obtain⟨_,_,hc⟩:=hc;cases hc
  case rangeFunc g ps x y=>split at hc<;>first|(cases hc;done)|(split at hc<;>cases hc)
theorem OK.cond{x:Opd}{y z:AC}{t:Bool}(hv:s.ev x= .bool t)(h1:t=true→OK c (.code y::k) s)(h2:t=false→OK c (.code z::k) s):OK c (.code (.cond x y z)::k) s:=by
 intro O ρ a w k' b cs hr hs hd hk
 cases hk with
 | code hc hk=>
  rename_i cd _
  cases cd<;>simp only [Q7]at hc<;>try (cases hc;done)
  case cond x y z=>
   split at hc
   ·rename_i x' y' z' hx hy hz
    injection hc with hc
    injection hc with e1 e2 e3
    subst e1;subst e2;subst e3
    have hev:=(hs.evr hr.gl).ev hx
    rw [hv]at hev
    have hev:=hev.bool_inv
    have hst:=stepR_cond (P:=c.P) (b:=b) (k:= ‹List Item›) (cs:=cs) (w:=w) (x:=y) (y:=z) hev
    cases t with
    |true=>exact(h1 rfl O ρ a w _ b cs hr hs hd (.code hy hk)).step (.one hst) (Ext.refl _)
    |false=>exact(h2 rfl O ρ a w _ b cs hr hs hd (.code hz hk)).step (.one hst) (Ext.refl _)
   ·cases hc
  case region id ops draw=>split at hc<;>first|(cases hc;done)|(split at hc<;>cases hc)
  case seq x y=>split at hc<;>cases hc
  case block id x=>rw [Option.map_eq_some_iff]at hc;obtain⟨_,_,hc⟩:=hc;cases hc
  case scope x=>rw [Option.map_eq_some_iff]at hc;obtain⟨_,_,hc⟩:=hc;cases hc
  case loop x=>rw [Option.map_eq_some_iff]at hc;obtain⟨_,_,hc⟩:=hc;cases hc
  case rangeFunc g ps x y=>split at hc<;>first|(cases hc;done)|(split at hc<;>cases hc)
theorem C0Q{P:Program}{b:Frame}{a:Act}{k:List Item}{cs:List Frame}{w:World}{c:Code}:
  step P (lone (b.atR a (.code (.scope c)::k)) cs w)= .next (lone (b.atR a (.code c:: .inScope c::k)) cs w):=
 step_lone_go (by simp [Go.stepG,Go.stepG.exec,Frame.atR])
theorem B6v{P:Program}{b:Frame}{a:Act}{k:List Item}{cs:List Frame}{w:World}{c:Code}:
  step P (lone (b.atR a (.inScope c::k)) cs w)= .next (lone (b.atR a k) cs w):=
 step_lone_go (by simp [Go.stepG,Go.stepG.exec,Frame.atR])
theorem OK.block{id:Nat}{x:AC}(h:OK c (.code x:: .blk id::k) s):OK c (.code (.block id x)::k) s:=by
 intro O ρ a w k' b cs hr hs hd hk
 cases hk with
 | code hc hk=>
  rename_i cd _
  cases cd<;>simp only [Q7]at hc<;>try (cases hc;done)
  case block id x=>
   rw [Option.map_eq_some_iff]at hc
   obtain⟨x',hx,hc⟩:=hc
   injection hc with e1 e2
   subst e1;subst e2
   exact(h O ρ a w _ b cs hr hs hd (.code hx (.blk hk))).step (.one stepR_block) (Ext.refl _)
  case scope x=>
   rw [Option.map_eq_some_iff]at hc
   obtain⟨x',hx,hc⟩:=hc
   injection hc with e1 e2
   subst e1;subst e2
   exact(h O ρ a w _ b cs hr hs hd (.code hx (.scp hk))).step (.one C0Q) (Ext.refl _)
  case region id ops draw=>split at hc<;>first|(cases hc;done)|(split at hc<;>cases hc)
  case seq x y=>split at hc<;>cases hc
  case cond x y z=>split at hc<;>cases hc
  case loop x=>rw [Option.map_eq_some_iff]at hc;obtain⟨_,_,hc⟩:=hc;cases hc
  case rangeFunc g ps x y=>split at hc<;>first|(cases hc;done)|(split at hc<;>cases hc)
theorem OK.blk{id:Nat}(h:OK c k s):OK c (.blk id::k) s:=by
 intro O ρ a w k' b cs hr hs hd hk
 cases hk with
 |blk hk=>exact(h O ρ a w _ b cs hr hs hd hk).step (.one stepR_inBlock) (Ext.refl _)
 |scp hk=>exact(h O ρ a w _ b cs hr hs hd hk).step (.one B6v) (Ext.refl _)
def Y3(id:Nat):List AItem→Option (List AItem)
 | []=>none
 | .blk id'::k=>bif Nat.beq id' id then some k else Y3 id k
 | .code _::k=>Y3 id k
 | .lp _::k=>Y3 id k
 | .beg::k=>Y3 id k
theorem C1t{id:Nat}{P:Program}{N:Nat}{k:List AItem}{k':List Item}(hid:Nat.beq A9O id=false)(h:RelL P N k k'): ∀{k2:List AItem},Y3 id k=some k2→ ∃k2',exitTo id k'=some k2'∧RelL P N k2 k2':=by
 induction h with
 |nil=>intro k2 h;cases h
 |code _ _ ih=>intro k2 h;exact ih h
 |lp _ _ ih=>intro k2 h;exact ih h
 |beg _ ih=>intro k2 h;exact ih h
 |scp _ ih=>
  intro k2 h
  simp only [Y3,hid,cond_false]at h
  exact ih h
 | blk hk ih=>
  rename_i id' k k'
  intro k2 h
  simp only [Y3]at h
  cases hb:Nat.beq id' id with
  |true=>
   rw [hb]at h
   injection h with h
   subst h
   have:=Nat.eq_of_beq_eq_true hb
   exact⟨k',by simp [exitTo,this],hk⟩
  | false=>
   rw [hb]at h
   obtain⟨k2',h1,h2⟩:=ih h
   refine⟨k2',?_,h2⟩
   have hne:(id'==id)=false:=by
    exact YN
   simp only [exitTo,hne]
   exact h1
theorem OK.exit{id:Nat}{k2:List AItem}(hsc:Nat.beq A9O id=false)(hdr:Y3 id k=some k2)(h:OK c k2 s):OK c (.code (.exit id)::k) s:=by
 intro O ρ a w k' b cs hr hs hd hk
 cases hk with
 | code hc hk=>
  rename_i cd _
  cases cd<;>simp only [Q7]at hc<;>try (cases hc;done)
  case exit id=>
   injection hc with hc
   injection hc with e1
   subst e1
   obtain⟨k2',h1,h2⟩:=C1t hsc hk hdr
   exact(h O ρ a w _ b cs hr hs hd h2).step (.one (stepR_exit h1)) (Ext.refl _)
  case region id ops draw=>split at hc<;>first|(cases hc;done)|(split at hc<;>cases hc)
  case seq x y=>split at hc<;>cases hc
  case cond x y z=>split at hc<;>cases hc
  case block id x=>rw [Option.map_eq_some_iff]at hc;obtain⟨_,_,hc⟩:=hc;cases hc
  case scope x=>rw [Option.map_eq_some_iff]at hc;obtain⟨_,_,hc⟩:=hc;cases hc
  case loop x=>rw [Option.map_eq_some_iff]at hc;obtain⟨_,_,hc⟩:=hc;cases hc
  case rangeFunc g ps x y=>split at hc<;>first|(cases hc;done)|(split at hc<;>cases hc)
theorem D2E{P:Program}{O:Nat→Prop}{ρ:Nat→Loc}{w:World}{h:A2}{m:Nat}(hr:HeapR w O ρ m h){vx:V}{pv:Value}(hx:R (A4 w O ρ m h) vx pv){t:TypeId}{n:Nat}{agg:Bool}{r:V}(ht:A9W P t=some (n,agg))(h1:A8v h vx n agg=some r):
  ∃ad u,pv= .pointer (some ad)∧(loadVar t ad).run P w= .ok u w∧R (A4 w O ρ m h) r u:=by
 unfold A8v at h1
 split at h1
 ·rename_i b st i j
  split at h1
  ·rename_i sz rs hg
   split at h1
   ·rename_i row hrow
    obtain⟨hsz,hlen,hcell,hrows⟩:=hr.blk _ (A2.mem_of_get hg)
    exact XD
   ·cases h1
  ·rename_i T sz rs hg
   split at h1
   ·rename_i row hrow
    obtain⟨⟨hsz,hlen,hcell,hrows⟩,_⟩:=hr.blk _ (A2.mem_of_get hg)
    exact XD
   ·cases h1
  ·cases h1
 ·rename_i es i j
  split at h1
  ·rename_i row hrow
   cases hx with
   |iptr _ _ _ p sz f hp hrowl hcell hR=>
    have hR':A2D (A4 w O ρ m h) p.block (p.off+i*sz) row:=fun j' c hj=>⟨f i j',(hcell i row j' c hrow hj).1,(hcell i row j' c hrow hj).2.1,hR i row j' c hrow hj⟩
    obtain⟨v,hv,hRv⟩:=A5X (P:=P) hR' ht h1
    exact⟨_,v,rfl,hv,hRv⟩
  ·cases h1
 ·cases h1
theorem B8B{P:Program}{bs:Option Nat}{N:Nat}{O:Nat→Prop}{ρ:Nat→Loc}{a:Act}{w:World}(hr:HeapR w O ρ s.n s.h)(hs:Sim P bs N (A4 w O ρ s.n s.h) s.sl a): ∀(l:List ResultVar) (rs:List RV) (vs:List V),A5c P l=some rs→A7D s rs=some vs→
  ∃us:List Value,(l.mapM (m:=Sem) fun| .tmp t=>pure (a.tmps.getD t Go.undef)| .cell q t=>do loadVar t (←asAddr (a.tmps.getD q Go.undef))).run P w= .ok us w∧RL (A4 w O ρ s.n s.h) vs us.toArray
 | [],rs,vs,h,hv=>by
  simp [A5c]at h;subst h
  simp [A7D]at hv;subst hv
  exact⟨[],rfl,rfl,by simp⟩
 | .tmp t::l,rs,vs,h,hv=>by
  simp only [A5c,Option.map_eq_some_iff]at h
  obtain⟨rs',h1,rfl⟩:=h
  simp only [A7D,Option.map_eq_some_iff]at hv
  obtain⟨vs',h2,rfl⟩:=hv
  obtain⟨us,h3,h4,h5⟩:=B8B hr hs l rs' vs' h1 h2
  refine⟨a.tmps.getD t Go.undef::us,?_,by simpa using h4,fun i c v hc hv=> ?_⟩
  ·rw [List.mapM_cons]
   simp only [Sem.run_bind,Sem.run_pure,Result.andThen_ok,h3]
  ·cases i with
   |zero=>
    injection hc with hc
    simp only [List.getElem?_toArray,List.getElem?_cons_zero,Option.some.injEq]at hv
    subst hc;subst hv;exact hs.slot t
   |succ i=>exact h5 i c v zA zt
 | .cell q t::l,rs,vs,h,hv=>by
  simp only [A5c]at h
  split at h
  ·rename_i n ag rs' ht h1
   injection h with h
   subst h
   simp only [A7D]at hv
   split at hv
   ·rename_i v vs' hl h2
    injection hv with hv
    subst hv
    obtain⟨us,h3,h4,h5⟩:=B8B hr hs l rs' vs' h1 h2
    have key:=D2E hr (hs.slot q) ht hl
    obtain⟨ad,u,e1,e2,e3⟩:=key
    refine⟨u::us,?_,by simpa using h4,fun i c v' hc hv=> ?_⟩
    ·have e4:(do loadVar t (←asAddr (a.tmps.getD q Go.undef)):Sem Value).run P w= .ok u w:=by
      rw [e1];simp [asAddr,e2]
     rw [List.mapM_cons,Sem.run_bind]
     show ((do loadVar t (←asAddr (a.tmps.getD q Go.undef)):Sem Value).run P w).andThen _=_
     rw [e4,Result.andThen_ok,Sem.run_bind,h3]
     rfl
    ·cases i with
     |zero=>simp at hc hv;subst hc;subst hv;exact e3
     |succ i=>exact h5 i c v' zA zt
   ·cases hv
  ·cases h
theorem C0w{fn:Func}{P:Program}{bs:Option Nat}{N:Nat}{O:Nat→Prop}{ρ:Nat→Loc}{a:Act}{w:World}{rs:List RV}{vs:List V}(hr:HeapR w O ρ s.n s.h)(hs:Sim P bs N (A4 w O ρ s.n s.h) s.sl a)(h:A5c P fn.results.toList=some rs)(hv:A7D s rs=some vs):
  ∃v,(results fn a.tmps).run P w= .ok v w∧R (A4 w O ρ s.n s.h) (B2i vs) v:=by
 obtain⟨us,h1,h2⟩:=B8B hr hs _ rs vs h hv
 have hm:(fn.results.mapM (m:=Sem) fun| .tmp t=>pure (a.tmps.getD t Go.undef)| .cell q t=>do loadVar t (←asAddr (a.tmps.getD q Go.undef))).run P w= .ok us.toArray w:=by
  rw [Array.mapM_eq_mapM_toList]
  simp only [Sem.run_map]
  rw [h1];rfl
 have hres:(results fn a.tmps).run P w=(Result.ok us.toArray w).andThen fun vs w'=>(pure (if h:vs.size=1 then vs[0]else .tuple vs):Sem Value).run P w':=by
  unfold results
  rw [Sem.run_bind]
  exact congrArg (fun r=>Result.andThen r _) hm
 rw [hres,Result.andThen_ok]
 by_cases h1':us.length=1
 ·obtain⟨u,rfl⟩:=List.length_eq_one_iff.1 h1'
  have hl:=h2.1
  obtain⟨x,rfl⟩:=List.length_eq_one_iff.1 (by simpa using hl:vs.length=1)
  exact⟨u,rfl,h2.2 0 x u rfl rfl⟩
 ·have hne: ¬us.toArray.size=1:=by simpa using h1'
  refine⟨.tuple us.toArray,by rw [dif_neg hne];rfl,?_⟩
  have:B2i vs= .tup vs:=by
   unfold B2i
   split
   ·rename_i v
    have:=h2.1
    simp at this
    exact(h1' this.symm).elim
   ·rfl
  rw [this]
  exact .tup _ _ h2.1 h2.2
theorem OK.ret{rs:List RV}(hrd:c.rd=none)(hrs:A5c c.P c.fn.results.toList=some rs)(h:C9B c rs s):OK c (.code .ret::k) s:=by
 intro O ρ a w k' b cs hr hs hd hk
 unfold B6j
 rw [hrd]at hd⊢
 cases hk with
 |code hc hk=>
  rename_i cd _
  cases cd<;>simp only [Q7]at hc<;>try (cases hc;done)
  case ret=>exact .inl ⟨_,a,w,ρ,s,rs,.one (stepR_ret hd),hr,hs,Ext.refl _,hrs,h⟩
  all_goals first|(split at hc<;>first|(cases hc;done)|(split at hc<;>cases hc))|(rw [Option.map_eq_some_iff]at hc;obtain⟨_,_,hc⟩:=hc;cases hc)
theorem OK.nil{rs:List RV}(hrd:c.rd=none)(hrs:A5c c.P c.fn.results.toList=some rs)(h:C9B c rs s):OK c [] s:=by
 intro O ρ a w k' b cs hr hs hd hk
 unfold B6j
 rw [hrd]at hd⊢
 cases hk with
 |nil=>exact .inl ⟨_,a,w,ρ,s,rs,.one (stepR_end hd),hr,hs,Ext.refl _,hrs,h⟩
theorem B1C{P:Program}{B N:Nat}{ops:Array Oper}: ∀{l:List Oper} {is:List AI},A8b P B N ops l=some is→is.length=l.length∧ ∀(q:Nat) o,l[q]? =some o→ ∃i,is[q]? =some i∧B9l P B N ops o=some i
 | [],is,h=>by simp [A8b]at h;subst h;simp
 | o::r,is,h=>by
  simp only [A8b]at h
  split at h
  ·rename_i i is' h1 h2
   injection h with h
   subst h
   obtain⟨h3,h4⟩:=B1C h2
   refine⟨by simp [h3],fun q o' hq=> ?_⟩
   cases q with
   |zero=>simp at hq;subst hq;exact⟨i,rfl,h1⟩
   |succ q=>simpa using h4 q o' (by simpa using hq)
  ·cases h
theorem C2G{a:Nat}{l:List Nat}:l.any (Nat.beq a)=true↔a∈l:=by
 rw [List.any_eq_true]
 constructor
 ·rintro⟨x,hx,h⟩;rw [Nat.eq_of_beq_eq_true h];exact hx
 ·intro h;exact⟨a,h,Nat.beq_refl a⟩
theorem B3J: ∀{l:List Nat},B8s l=true→l.Nodup
 | [],_=> .nil
 |a::r,h=>by
  simp only [B8s,Bool.and_eq_true,Bool.not_eq_true']at h
  refine List.nodup_cons.2 ⟨fun hm=> ?_,B3J h.2⟩
  rw [C2G.2 hm]at h
  cases h.1
theorem B3T{n:Nat}{T:List Nat}(h:B6i n T=true):T.Nodup∧T.Perm (List.range n):=by
 unfold B6i at h
 simp only [Bool.and_eq_true,List.all_eq_true]at h
 obtain⟨h1,h2,h3⟩:=h
 have hn:=B3J h1
 exact⟨hn,B0U _ _ hn (fun x hx=>List.mem_range.2 (Nat.le_of_ble_eq_true (h3 x hx))) (by rw [Nat.eq_of_beq_eq_true h2];simp)⟩
theorem B6R: ∀{a b:List Nat},C6n a b=true→a=b
 | [],[],_=>rfl
 |x::r,y::s,h=>by
  simp only [C6n,Bool.and_eq_true]at h
  rw [Nat.eq_of_beq_eq_true h.1,B6R h.2]
 | [],_::_,h=>by cases h
 |_::_,[],h=>by cases h
theorem B2q{f:Nat→AI}{anc:Nat→Nat→Bool}: ∀{l:List Nat},B2p f anc l=true→l.Pairwise fun a i=>A6B (f a) (f i)=true∨anc a i=true
 | [],_=> .nil
 |a::r,h=>by
  simp only [B2p,Bool.and_eq_true,List.all_eq_true,Bool.or_eq_true]at h
  exact .cons (fun i hi=>h.1 i hi) (B2q h.2)
theorem B0T{P:Program}{f:Nat→AI}{m:Region.Mode}{ops:Array Oper}{Ts:List (List Nat)}{K:St→Prop}{s:St}(hK:B0z K)(hc:A3A f m ops=some Ts)(hk: ∀T∈Ts,A7K P PK (T.map f) s K)(t:Nat):
  (Region.linearise m ops t).Perm (List.range ops.size)∧A7K P PK ((Region.linearise m ops t).map f) s K:=by
 unfold A3A at hc
 simp only at hc
 split at hc
 ·rename_i hcond
  injection hc with hc
  subst hc
  simp only [Bool.and_eq_true]at hcond
  obtain⟨⟨c1,c2⟩,_,c4,c5⟩:=hcond
  generalize B1x m ops [] _ _ _ _=T0 at*
  obtain⟨n1,n2⟩:=B3T c1
  obtain⟨p1,p2⟩:=B5n (m:=m) (ops:=ops) (T:=T0.reverse) (A2H c2) (fun i hi=>List.mem_reverse.2 (n2.mem_iff.2 (List.mem_range.2 hi))) (fun i hi=>List.mem_range.1 (n2.mem_iff.1 (List.mem_reverse.1 hi))) t
  refine⟨p1,?_⟩
  generalize hL:Region.linearise m ops t=L at*
  generalize hC:B3a _ _ _=C at hk c4 c5
  have hnl:L.Nodup:=p1.symm.nodup List.nodup_range
  have hpos:=B2r hnl
  have hmem: ∀i,i∈L↔i<ops.size:=fun i=>by rw [p1.mem_iff];simp
  have hC': ∀p∈C,p.1<ops.size∧p.2<ops.size∧p.1≠p.2:=fun p hp=>by
   rw [List.all_eq_true]at c4
   have:=c4 p hp
   simp only [Bool.and_eq_true]at this
   refine⟨Nat.le_of_ble_eq_true this.1.1,Nat.le_of_ble_eq_true this.1.2,fun e=> ?_⟩
   have h3:=this.2
   rw [e,Nat.beq_refl]at h3
   cases h3
  generalize hE:C.map (A8R L)=E
  have hElt: ∀p∈E,pos p.1 L<pos p.2 L∧p.1<ops.size∧p.2<ops.size:=by
   intro p hp
   rw [←hE,List.mem_map]at hp
   obtain⟨q,hq,rfl⟩:=hp
   obtain⟨h1,h2,h3⟩:=hC' q hq
   refine⟨C4T (C7q ((hmem _).2 h1) h3 hnl),?_⟩
   unfold A8R
   cases Nat.blt _ _<;>exact⟨by assumption,by assumption⟩
  have later: ∀x y,x<ops.size→y<ops.size→pos x L<pos y L→ ¬Anc m ops y x:=by
   intro x y hx hy hlt
   have hboth:=hpos.and p2
   obtain⟨l1,l2,hl⟩:=List.append_of_mem ((hmem x).2 hx)
   have hy':=(hmem y).2 hy
   rw [hl]at hy'
   rw [hl]at hboth
   rcases List.mem_append.1 hy' with h|h
   ·have:=((List.pairwise_append.1 hboth).2.2 y h x zg).1
    rw [←hl]at this
    omega
   ·rcases List.mem_cons.1 h with rfl|h
    ·omega
    ·exact((List.pairwise_cons.1 (List.pairwise_append.1 hboth).2.1).1 y h).2
  have hcyc:B4P (C1e (B2d m ops [] T0 [])) E=false:=by
   cases hb:B4P (C1e (B2d m ops [] T0 [])) E with
   |false=>rfl
   | true=>
    unfold B4P at hb
    rw [List.any_eq_true]at hb
    obtain⟨p,hp,hb⟩:=hb
    rw [List.any_eq_true]at hb
    obtain⟨q,hq,hb⟩:=hb
    rw [Bool.and_eq_true]at hb
    have e:=Nat.eq_of_beq_eq_true hb.1
    obtain⟨a1,a2,a3⟩:=hElt p hp
    obtain⟨b1,b2,b3⟩:=hElt q hq
    rw [←e]at b1
    rcases Bool.or_eq_true _ _ ▸ hb.2 with h|h
    ·exact(later p.1 q.2 a2 b3 zd (B0A h).anc).elim
    ·rw [List.any_eq_true]at h
     obtain⟨r,hr,h⟩:=h
     rw [Bool.and_eq_true]at h
     have e2:=Nat.eq_of_beq_eq_true h.1
     obtain⟨d1,d2,d3⟩:=hElt r hr
     rw [←e2]at d1
     rcases Bool.or_eq_true _ _ ▸ h.2 with g|g
     ·have e3:=Nat.eq_of_beq_eq_true g
      rw [e3]at d1
      omega
     ·exact(later p.1 r.2 a2 d3 zd (B0A g).anc).elim
  have hEm:E∈(A6C C).filter fun E=> !B4P (C1e (B2d m ops [] T0 [])) E:=by
   rw [List.mem_filter]
   exact⟨by rw [←hE];exact A8S _ C,by rw [hcyc];rfl⟩
  generalize hT:B1x m ops E (fun i=>Nat.ble (cls (f i).o) 1) ops.size (List.range ops.size) []=T
  have hc5:B6i ops.size T=true∧B2p f (C1e (B2d m ops E T [])) T=true:=by
   rw [List.all_eq_true]at c5
   have:=c5 (E,T) (by
    rw [List.zip_map_right,List.mem_map]
    refine⟨(E,E),?_,by simp only [Prod.map];rw [←hT];rfl⟩
    have hz: ∀(l:List (List (Nat×Nat))) x,x∈l→(x,x)∈l.zip l:=by
     intro l x hx
     induction l with
     |nil=>cases hx
     |cons y r ih=>
      rw [List.zip_cons_cons]
      rcases List.mem_cons.1 hx with rfl|hx
      ·simp
      ·exact List.mem_cons_of_mem _ (ih hx)
    exact hz _ E hEm)
   simpa only [Bool.and_eq_true]using this
  obtain⟨d1,d4⟩:=hc5
  obtain⟨hnT,hTr⟩:=B3T d1
  have hk:=hk T (by
   rw [List.mem_map]
   exact⟨E,hEm,hT⟩)
  have hpair:=(B2q d4).imp (S:=fun a i=>A6B (f a) (f i)=true∨AncE m ops E a i) (fun h=>h.imp (fun h=>h) B0A)
  have hmono: ∀a i,AncE m ops E a i→i<ops.size→a<ops.size∧pos a L<pos i L:=by
   have one: ∀a i,B4v m ops a i∨(a,i)∈E→i<ops.size→a<ops.size∧pos a L<pos i L:=by
    intro a i h hi
    rcases h with h|h
    ·have ha:a<ops.size:=by
      have hb:H3 m ops T0.reverse:=A2H c2
      obtain⟨t1,t2,ht⟩:=List.append_of_mem (List.mem_reverse.2 (n2.mem_iff.2 (List.mem_range.2 hi)))
      rw [ht]at hb
      have h3:=(H3.tail hb).1 a h
      have h4:a∈T0.reverse:=by rw [ht];simp [h3]
      exact List.mem_range.1 (n2.mem_iff.1 (List.mem_reverse.1 h4))
     refine⟨ha,?_⟩
     have hanc:Anc m ops a i:= .one h
     rcases Nat.lt_trichotomy (pos a L) (pos i L)with h1|h1|h1
     ·exact h1
     ·exfalso
      have:a=i:=by
       by_cases e:a=i
       ·exact e
       ·exact(C7q ((hmem a).2 ha) e hnl h1).elim
      subst this
      have hb:H3 m ops T0.reverse:=A2H c2
      obtain⟨t1,t2,ht⟩:=List.append_of_mem (List.mem_reverse.2 (n2.mem_iff.2 (List.mem_range.2 hi)))
      rw [ht]at hb
      have h3:=(H3.tail hb).1 a h
      have hnr:T0.reverse.Nodup:=(List.reverse_perm T0).symm.nodup n1
      rw [ht]at hnr
      exact(List.nodup_cons.1 (List.nodup_append.1 hnr).2.1).1 h3
     ·exact(later i a hi ha h1 hanc).elim
    ·exact⟨(hElt _ h).2.1,(hElt _ h).1⟩
   intro a i h
   induction h with
   |one h=>exact one _ _ h
   |more h _ ih=>
    intro hi
    obtain⟨h1,h2⟩:=one _ _ h hi
    obtain⟨h3,h4⟩:=ih h1
    exact⟨h3,Nat.lt_trans h4 h2⟩
  have hl':L.Pairwise fun i a=> ¬AncE m ops E a i:=hpos.imp_of_mem fun hi ha hlt h=>by
   have:=(hmono _ _ h ((hmem _).1 hi)).2
   omega
  exact C3r f (AncE m ops E) hK L T s hnT (p1.trans hTr.symm) hpair hl' hk
 ·cases hc
theorem B8z{P:Program}{B N:Nat}{ops:Array Oper}{draw:Bool}{iss:List (List AI)}{id:Nat}{K:St→Prop}(hK:B0z K)(hc:B0J P B N ops draw=some iss)(hk: ∀is∈iss,A7K P PK is s K)
  {bs:Option Nat} {O:Nat→Prop} {ρ:Nat→Loc} {a:Act} {w:World} (hr:HeapR w O ρ s.n s.h) (hs:Sim P bs N (A4 w O ρ s.n s.h) s.sl a) (b:Frame) (k':List Item) (cs:List Frame):
  (∃ρ' s' a' w',HeapR w' O ρ' s'.n s'.h∧Sim P bs N (A4 w' O ρ' s'.n s'.h) s'.sl a'∧Ext (A4 w O ρ s.n s.h) (A4 w' O ρ' s'.n s'.h)∧PutsOf (fun i=> ∃o∈ops,o.dst=some i) a a'∧K s'∧Steps P (lone (b.atR a (.code (.region id ops draw)::k')) cs w) (lone (b.atR a' k') cs w'))∨ ∃x ρ' h' n' a' w' todo,HeapR w' O ρ' n' h'∧Ext (A4 w O ρ s.n s.h) (A4 w' O ρ' n' h')∧(bs=none→a'.defers= [])∧PutsOf (fun i=> ∃o∈ops,o.dst=some i) a a'∧PK x h' n'∧Steps P (lone (b.atR a (.code (.region id ops draw)::k')) cs w) (lone {b.atR a' todo with mode:= .panicking [{v:=x,recovered:=false}]} cs w'):=by
 unfold B0J at hc
 split at hc
 ·cases hc
 ·rename_i js hjs
  obtain⟨hlen,hget⟩:=B1C hjs
  let Q:Exit→Act→World→Prop:=fun e a' w'=>(e= .normal∧ ∃ρ' s',HeapR w' O ρ' s'.n s'.h∧Sim P bs N (A4 w' O ρ' s'.n s'.h) s'.sl a'∧Ext (A4 w O ρ s.n s.h) (A4 w' O ρ' s'.n s'.h)∧PutsOf (fun i=> ∃o∈ops,o.dst=some i) a a'∧K s')∨ ∃x ρ' h' n',e= .panic [{v:=x,recovered:=false}]∧HeapR w' O ρ' n' h'∧Ext (A4 w O ρ s.n s.h) (A4 w' O ρ' n' h')∧(bs=none→a'.defers= [])∧PutsOf (fun i=> ∃o∈ops,o.dst=some i) a a'∧PK x h' n'
  have close: ∀m,(∃e a' w',Q e a' w'∧ArrivesIn (Machine.fenced P (Fr b.roundOf)) P m b k' cs e a' w')→Steps P (lone (b.atR a (.code (.region id ops draw)::k')) cs w) m→(∃ρ' s' a' w',HeapR w' O ρ' s'.n s'.h∧Sim P bs N (A4 w' O ρ' s'.n s'.h) s'.sl a'∧Ext (A4 w O ρ s.n s.h) (A4 w' O ρ' s'.n s'.h)∧PutsOf (fun i=> ∃o∈ops,o.dst=some i) a a'∧K s'∧Steps P (lone (b.atR a (.code (.region id ops draw)::k')) cs w) (lone (b.atR a' k') cs w'))∨ ∃x ρ' h' n' a' w' todo,HeapR w' O ρ' n' h'∧Ext (A4 w O ρ s.n s.h) (A4 w' O ρ' n' h')∧(bs=none→a'.defers= [])∧PutsOf (fun i=> ∃o∈ops,o.dst=some i) a a'∧PK x h' n'∧Steps P (lone (b.atR a (.code (.region id ops draw)::k')) cs w) (lone {b.atR a' todo with mode:= .panicking [{v:=x,recovered:=false}]} cs w'):=by
   rintro m ⟨e,a',w',(⟨rfl,ρ',s',q1,q2,q3,q4,q5⟩|⟨x,ρ',h',n',rfl,q1,q2,q3,q4,q5⟩),harr⟩ hst
   ·exact .inl ⟨ρ',s',a',w',q1,q2,q3,q4,q5,hst.trans (StepsIn.steps harr)⟩
   ·obtain⟨todo,harr⟩:=harr
    exact .inr ⟨x,ρ',h',n',a',w',todo,q1,q2,q3,q4,q5,hst.trans (StepsIn.steps harr)⟩
  cases draw with
  | false=>
   simp only [Bool.false_eq_true,if_false]at hc
   injection hc with hc
   subst hc
   have hk:=hk js zg
   have hl:(List.range ops.size).length=js.length:=by rw [hlen];simp
   have hops:=B3n (Q:=Q) (ro:=b.roundOf) (ops:=ops) (P:=P) (N:=N) (List.range ops.size) js a w ρ s K hl.symm (fun q j hq=>by
    have hqn:q<ops.size:=by have:=(List.getElem?_eq_some_iff.1 hq).1;simpa using this
    have hj:j=q:=by have:=(List.getElem?_eq_some_iff.1 hq).2;simpa using this.symm
    subst hj
    obtain⟨i,h1,h2⟩:=hget j ops[j] (by simp [hqn])
    exact⟨ops[j],i,by simp [hqn],h1,h2⟩) hr hs hk (fun ρ' s' a' w' h1 h2 h3 h4 h5=> .inl ⟨rfl,ρ',s',h1,h2,h3,h4,h5⟩) fun x ρ' h' n' a' w' h1 h2 h3 h4 h5=> .inr ⟨x,ρ',h',n',rfl,h1,h2,h3,h4,h5⟩
   exact close _ (wp_opsIn _ a w hops b k' cs rfl trivial (room_wide _)) (.one stepR_region)
  | true=>
   simp only [if_true]at hc
   let f:=fun i=>js.getD i default
   generalize ht:w.tape w.drawn (.order b.fn id)=t
   have fin: ∀L:List Nat,Region.schedule (P.follows .mixedOrders) ops t=L→L.Perm (List.range ops.size)→A7K P PK (L.map f) s K→
     (∃ρ' s' a' w',HeapR w' O ρ' s'.n s'.h∧Sim P bs N (A4 w' O ρ' s'.n s'.h) s'.sl a'∧Ext (A4 w O ρ s.n s.h) (A4 w' O ρ' s'.n s'.h)∧PutsOf (fun i=> ∃o∈ops,o.dst=some i) a a'∧K s'∧Steps P (lone (b.atR a (.code (.region id ops true)::k')) cs w) (lone (b.atR a' k') cs w'))∨ ∃x ρ' h' n' a' w' todo,HeapR w' O ρ' n' h'∧Ext (A4 w O ρ s.n s.h) (A4 w' O ρ' n' h')∧(bs=none→a'.defers= [])∧PutsOf (fun i=> ∃o∈ops,o.dst=some i) a a'∧PK x h' n'∧Steps P (lone (b.atR a (.code (.region id ops true)::k')) cs w) (lone {b.atR a' todo with mode:= .panicking [{v:=x,recovered:=false}]} cs w'):=by
    intro L hL p1 hk'
    obtain⟨hr2,hx2⟩:=hr.drew
    have hops:=B3n (Q:=Q) (ro:=b.roundOf) (ops:=ops) (P:=P) (N:=N) L (L.map f) a w.drew ρ s K zg (fun q j hq=>by
     have hj:j<ops.size:=by simpa using p1.subset (List.mem_of_getElem? hq)
     obtain⟨i,h1,h2⟩:=hget j ops[j] (by simp [hj])
     refine⟨ops[j],i,by simp [hj],?_,h2⟩
     rw [List.getElem?_map,hq]
     simp [f,List.getD_eq_getElem?_getD,h1]) hr2 (hs.mono hx2) hk' (fun ρ' s' a' w' h1 h2 h3 h4 h5=> .inl ⟨rfl,ρ',s',h1,h2,hx2.trans h3,h4,h5⟩) fun x ρ' h' n' a' w' h1 h2 h3 h4 h5=> .inr ⟨x,ρ',h',n',rfl,h1,hx2.trans h2,h3,h4,h5⟩
    refine close _ (wp_opsIn _ a w.drew hops b k' cs rfl trivial (room_wide _)) (.one ?_)
    rw [stepR_region_draw,ht,hL]
    rfl
   split at hc
   ·rename_i hcond
    rw [Option.map_eq_some_iff]at hc
    obtain⟨Ts,hTs,rfl⟩:=hc
    obtain⟨p1,p2⟩:=B0T (P:=P) (PK:=PK) (s:=s) hK hTs (fun T hT=>hk _ (List.mem_map.2 ⟨T,hT,rfl⟩)) t
    exact fin _ (by unfold Region.schedule;rw [if_pos hcond]) p1 p2
   ·rename_i hcond
    split at hc
    ·rename_i Ts Us hTs hUs
     injection hc with hc
     subst hc
     have kT: ∀T∈Ts,A7K P PK (T.map f) s K:=fun T hT=>hk _ (List.mem_map.2 ⟨T,List.mem_append.2 (.inl hT),rfl⟩)
     have kU: ∀U∈Us,A7K P PK (U.map f) s K:=fun U hU=>by
      cases hb:Ts.any (C6n U)with
      |false=>exact hk _ (List.mem_map.2 ⟨U,List.mem_append.2 (.inr (List.mem_filter.2 ⟨hU,by rw [hb];rfl⟩)),rfl⟩)
      |true=>
       rw [List.any_eq_true]at hb
       obtain⟨T,hT,he⟩:=hb
       rw [B6R he]
       exact kT T hT
     by_cases h2:(t%2==0)=true
     ·obtain⟨p1,p2⟩:=B0T (P:=P) (PK:=PK) (s:=s) hK hTs kT (t/2)
      exact fin _ (by unfold Region.schedule;rw [if_neg hcond,if_pos h2]) p1 p2
     ·obtain⟨p1,p2⟩:=B0T (P:=P) (PK:=PK) (s:=s) hK hUs kU (t/2)
      exact fin _ (by unfold Region.schedule;rw [if_neg hcond,if_neg h2]) p1 p2
    ·cases hc
theorem OK.ops{iss:List (List AI)}(hpr:c.pk=none∨c.rd=none)(h: ∀is∈iss,A7K c.P (C0k c.pk) is s (OK c k)):OK c (.code (.ops iss)::k) s:=by
 intro O ρ a w k' b cs hr hs hd hk
 cases hk with
 | code hc hk=>
  rename_i cd _
  cases cd<;>simp only [Q7]at hc<;>try (cases hc;done)
  case region id ops draw=>
   split at hc
   ·cases hc
   split at hc
   ·rename_i iss' h1
    injection hc with hc
    injection hc with hc
    subst hc
    rcases B8z (id:=id) OK.resp h1 h hr hs b _ cs with⟨ρ',s',a',w',q1,q2,q3,_,q4,q5⟩|⟨x,ρ',h',n',a',w',todo,q1,q2,q3,_,q4,q5⟩
    ·exact(q4 O ρ' a' w' _ b cs q1 q2 (hd.mono q3.n q3.ρ) hk).step q5 q3
    ·rcases hpr with hp|hp
     ·rw [hp]at q4;exact q4.elim
     ·unfold B6j
      rw [hp]
      exact .inr ⟨x,ρ',h',n',a',w',todo,q1,q2,q3,q4,q5⟩
   ·cases hc
  case seq x y=>split at hc<;>cases hc
  case cond x y z=>split at hc<;>cases hc
  case block id x=>rw [Option.map_eq_some_iff]at hc;obtain⟨_,_,hc⟩:=hc;cases hc
  case scope x=>rw [Option.map_eq_some_iff]at hc;obtain⟨_,_,hc⟩:=hc;cases hc
  case loop x=>rw [Option.map_eq_some_iff]at hc;obtain⟨_,_,hc⟩:=hc;cases hc
  case rangeFunc g ps x y=>split at hc<;>first|(cases hc;done)|(split at hc<;>cases hc)
theorem C7h{P:Program}{ops:Array Oper}{Q:Exit→Act→World→Prop}{i:Nat}{rest:List Nat}{a:Act}{w:World}{o:Oper}{v:Value}(ho:ops[i]? =some o)(hg:o.guard=none)(hr:(execOp a.eval o).run P w= .ok (.value v) w)
  (h:wpOpsIn (Fr none) 0 P ops Q rest (a.put o.dst v) w):wpOpsIn (Fr none) 0 P ops Q (i::rest) a w:=by
 exact Yk
theorem C1Z{P:Program}{ops:Array Oper}{Q:Exit→Act→World→Prop}{i:Nat}{rest:List Nat}{a:Act}{w:World}{o:Oper}{d:Deferred}(ho:ops[i]? =some o)(hg:o.guard=none)(hr:(execOp a.eval o).run P w= .ok (.defer d) w)
  (h:wpOpsIn (Fr none) 0 P ops Q rest ({a with defers:=d::a.defers}.put o.dst Go.undef) w):wpOpsIn (Fr none) 0 P ops Q (i::rest) a w:=by
 exact Yk
theorem C4h{P:Program}{bs:Option Nat}{N:Nat}{E:Env}{s:St}{ops:Array Oper}{draw:Bool}{d id:Nat}{a:Act}{w:World}(hc:B8a P N ops draw=some d)(hbs:bs≠none)(hs:Sim P bs N E s.sl a)(b:Frame)(hb:b.roundOf=none)(k':List Item)(cs:List Frame):
  ∃a',Sim P bs N E (G0 s.sl d .undef) a'∧Steps P (lone (b.atR a (.code (.region id ops draw)::k')) cs w) (lone (b.atR a' k') cs w):=by
 unfold B8a at hc
 split at hc
 ·rename_i o0 o1 hl
  have e0:ops= #[o0,o1]:=Array.ext' hl
  subst e0
  split at hc
  ·rename_i f first caps q d' p0 p1 p2
   cases hb2:first.isEmpty&&(B3D o0 d'&&((match q.callee with| .value (.tmp i)=>Nat.beq i d'|_=>false)&&(o1.dst.isNone&&(o1.guard.isNone&&(q.args.isEmpty&&(Nat.blt d' N&&(M4 P f&&B8x P f)))))))with
   |false=>rw [hb2]at hc;cases hc
   | true=>
    rw [hb2]at hc
    injection hc with hc
    subst hc
    simp only [Bool.and_eq_true]at hb2
    obtain⟨h1,h2,h3,h4,h5,h6,h7,h8,h9⟩:=hb2
    obtain⟨d0,g0⟩:=A5e h2
    have h7:=Nat.le_of_ble_eq_true h7
    have hf0:first= #[]:=by simpa using h1
    subst hf0
    have hd1:o1.dst=none:=by simpa using h4
    have hg1:o1.guard=none:=by simpa using h5
    obtain⟨qc,qa,qt⟩:=q
    have hqa:qa= #[]:=by simpa using h6
    subst hqa
    have hqc:qc= .value (.tmp d'):=by
     simp only at h3
     split at h3
     ·rw [Nat.eq_of_beq_eq_true h3]
     ·cases h3
    subst hqc
    have r0:(execOp a.eval o0).run P w= .ok (.value (.func (.func f) #[] (caps.map a.eval))) w:=by simp [execOp,p0,Instr.makeFunc]
    have r1: ∀η:Operand→Value,η (.tmp d')= .func (.func f) #[] (caps.map a.eval)→(execOp η o1).run P w= .ok (.defer {target:= .fn (.func f) (caps.map a.eval),args:= #[]}) w:=fun η h=>by simp [execOp,p1,resolve,Deferred.ofValue,h]
    have hq:B7R P {target:= .fn (.func f) (caps.map a.eval),args:= #[]}:=⟨.func f,caps.map a.eval,f, #[]++caps.map a.eval,rfl,fun w=>by simp [invoke,A0B h8],fun w=>C7r h9 _ w⟩
    generalize hfv:(Value.func (.func f) #[] (caps.map a.eval))=fv at*
    generalize ({target:= .fn (.func f) (caps.map a.eval),args:= #[]}:Deferred)=dd at*
    have hs1:=hs.set (d:=d') (v:= .undef) (x:=fv) h7 (.undef _)
    have hs2:Sim P bs N E (G0 s.sl d' .undef) {a.put (some d') fv with defers:=dd::a.defers}:=⟨hs1.size,hs1.base,hs1.defers.push hbs hq,hs1.slot⟩
    refine⟨_,hs2,?_⟩
    have hops:wpOpsIn (Fr none) 0 P #[o0,o1] (fun e a' w'=>e= .normal∧a'={a.put (some d') fv with defers:=dd::a.defers}∧w'=w) [0,1] a w:=by
     refine C7h (o:=o0) rfl g0 r0 ?_
     rw [d0]
     refine C1Z (o:=o1) rfl hg1 (r1 _ (A8g (by rw [hs.size];exact h7))) ?_
     rw [hd1]
     exact⟨rfl,rfl,rfl⟩
    obtain⟨e,a',w',⟨rfl,rfl,rfl⟩,harr⟩:=wp_opsIn _ a w hops b k' cs hb trivial (room_wide _)
    exact(Steps.one stepR_region).trans (StepsIn.steps harr)
  ·cases hc
 ·cases hc
theorem OK.dfr{d:Nat}(hbs:c.bs≠none)(hrd:c.rd=none)(h:OK c k ⟨G0 s.sl d .undef,s.h,s.n⟩):OK c (.code (.dfr d)::k) s:=by
 intro O ρ a w k' b cs hr hs hd hk
 cases hk with
 | code hc hk=>
  rename_i cd _
  cases cd<;>simp only [Q7]at hc<;>try (cases hc;done)
  case region id ops draw=>
   split at hc
   ·rename_i d' h1
    injection hc with hc
    injection hc with hc
    subst hc
    have hb:b.roundOf=none:=by
     unfold C3J at hd
     rw [hrd]at hd
     exact hd
    obtain⟨a',hs',hst⟩:=C4h (id:=id) (w:=w) h1 hbs hs b hb _ cs
    exact(h O ρ a' w _ b cs hr hs' hd hk).step hst (Ext.refl _)
   ·split at hc<;>cases hc
  case seq x y=>split at hc<;>cases hc
  case cond x y z=>split at hc<;>cases hc
  case block id x=>rw [Option.map_eq_some_iff]at hc;obtain⟨_,_,hc⟩:=hc;cases hc
  case scope x=>rw [Option.map_eq_some_iff]at hc;obtain⟨_,_,hc⟩:=hc;cases hc
  case loop x=>rw [Option.map_eq_some_iff]at hc;obtain⟨_,_,hc⟩:=hc;cases hc
  case rangeFunc g ps x y=>split at hc<;>first|(cases hc;done)|(split at hc<;>cases hc)
theorem OK.lp{x:AC}(h:OK c (.code x:: .lp x::k) s):OK c (.lp x::k) s:=by
 intro O ρ a w k' b cs hr hs hd hk
 cases hk with
 |lp hc hk=>exact(h O ρ a w _ b cs hr hs hd (.code hc (.lp hc hk))).step (.one stepR_inLoop) (Ext.refl _)
theorem OK.loop{x:AC}(h:OK c (.code x:: .lp x::k) s):OK c (.code (.loop x)::k) s:=by
 intro O ρ a w k' b cs hr hs hd hk
 cases hk with
 | code hc hk=>
  rename_i cd _
  cases cd<;>simp only [Q7]at hc<;>try (cases hc;done)
  case loop x=>
   rw [Option.map_eq_some_iff]at hc
   obtain⟨x',hx,hc⟩:=hc
   injection hc with e1
   subst e1
   exact(h O ρ a w _ b cs hr hs hd (.code hx (.lp hx hk))).step (.one stepR_loop) (Ext.refl _)
  case region id ops draw=>split at hc<;>first|(cases hc;done)|(split at hc<;>cases hc)
  case seq x y=>split at hc<;>cases hc
  case cond x y z=>split at hc<;>cases hc
  case block id x=>rw [Option.map_eq_some_iff]at hc;obtain⟨_,_,hc⟩:=hc;cases hc
  case scope x=>rw [Option.map_eq_some_iff]at hc;obtain⟨_,_,hc⟩:=hc;cases hc
  case rangeFunc g ps x y=>split at hc<;>first|(cases hc;done)|(split at hc<;>cases hc)
def E8(s s':St):Prop:=(∀p∈s'.sl,p.2=E0 s.sl p.1)∧(∀e∈s'.h,e∈s.h)∧s.n≤s'.n
theorem B4q{sl:List (Nat×V)}(i:Nat):E0 sl i= .undef∨(i,E0 sl i)∈sl:=by
 induction sl with
 |nil=>exact .inl rfl
 |cons p r ih=>
  simp only [E0]
  cases hb:Nat.beq p.1 i with
  |true=>have:=Nat.eq_of_beq_eq_true hb;subst this;exact .inr zg
  |false=>exact ih.imp id fun h=>by simp [h]
theorem HeapR.up{w:World}{O:Nat→Prop}{ρ:Nat→Loc}{n n':Nat}{h:A2}(hr:HeapR w O ρ n h)(hn:n≤n'):HeapR w O ρ n' h∧Ext (A4 w O ρ n h) (A4 w O ρ n' h):=by
 have hx:Ext (A4 w O ρ n h) (A4 w O ρ n' h):=⟨rfl,hn,fun _ _=>rfl,Wd.refl _,fun _ _ h=>⟨rfl,h⟩⟩
 exact⟨⟨fun e he=>Nat.lt_of_lt_of_le (hr.lt e he) hn,hr.inj,hr.out,hr.notO,fun e he=>(hr.blk e he).mono hx (hr.lt e he) fun _=>rfl,hr.gl.mono hx.imm⟩,hx⟩
theorem OK.weak{s':St}(hw:E8 s s')(h:OK c k s'):OK c k s:=by
 intro O ρ a w k' b cs hr hs hd hk
 obtain⟨h1,h2,h3⟩:=hw
 obtain⟨hr1,hx1⟩:=hr.drop h2
 obtain⟨hr2,hx2⟩:=hr1.up h3
 have hx:=hx1.trans hx2
 refine(h O ρ a w k' b cs hr2 ⟨hs.size,hs.base,hs.defers.mono hx,fun i=> ?_⟩ (hd.mono hx.n hx.ρ) hk).step (Steps.refl _ _) hx
 rcases B4q (sl:=s'.sl) i with hu|hm
 ·rw [hu];exact .undef _
 ·have:=h1 _ hm
  simp only at this
  rw [this]
  exact(hs.slot i).mono hx
theorem OK.rounds{α:Type}{x:AC}(S:α→St)(J:α→Prop)(μ:α→Nat)(x0:α)(hw:E8 s (S x0))(h0:J x0)
  (round: ∀y,J y→(∀s z,J z→μ z<μ y→E8 s (S z)→OK c (.lp x::k) s)→OK c (.code x:: .lp x::k) (S y)):OK c (.code (.loop x)::k) s:=by
 have key: ∀m y,μ y=m→J y→OK c (.code x:: .lp x::k) (S y):=by
  intro m
  induction m using Nat.strongRecOn with
  |_ m ih=>
   intro y hm hJ
   exact round y hJ fun s z hz hlt hw=>OK.weak hw (OK.lp (ih (μ z) (hm ▸ hlt) z rfl hz))
 exact OK.loop (OK.weak hw (key _ x0 rfl h0))
theorem HeapR.loopSet{w:World}{O:Nat→Prop}{ρ:Nat→Loc}{n:Nat}{h:A2}{b st N:Nat}{sl:List (Nat×V)}{ps:List Nat}{p:Code→Code→Prop}{s:LoopState}{pend:Option Code}
  (hr:HeapR w O ρ n h) (hg:A2.get h b st=some (.loop N sl ps p s pend)): ∃r:Loop,w.heap[(ρ st).blk]? =some (.loop r)∧r.state=s∧r.pending=pend∧r.params.toList=ps∧r.tmps.size=N∧(∀i∈ps,i<N)∧
   (∀i,R (A4 w O ρ n h) (E0 sl i) (r.tmps.getD i Go.undef))∧p r.assign r.body∧
   ∀s' pend',HeapR (w.putObj (ρ st).blk (.loop {r with state:=s',pending:=pend'})) O ρ n (A2.put h b st (.loop N sl ps p s' pend'))∧
    Ext (A4 w O ρ n h) (A4 (w.putObj (ρ st).blk (.loop {r with state:=s',pending:=pend'})) O ρ n (A2.put h b st (.loop N sl ps p s' pend'))):=by
 have hm:=A2.mem_of_get hg
 obtain⟨h1,h0,r,h2,h3,h4,h5,h6,h7,h8⟩:=hr.blk _ hm
 simp only at h1 h2 h7
 refine⟨r,h2,h3,h4,h5,h6,h0,h7,h8,fun s' pend'=> ?_⟩
 refine HeapR.step (w':=w.putObj (ρ st).blk (.loop {r with state:=s',pending:=pend'})) (ρ':=ρ) (n':=n) (b:=b) (st:=st) (x:= .loop N sl ps p s' pend') hr (Nat.le_refl _) (fun _ _=>rfl) (hr.lt _ hm) (Wd.setObj w _ _)
  (fun y hy hb=> ?_) (.inr (.inr ⟨_,hm,rfl,h1,rfl⟩)) fun hx=>⟨h1,h0,{r with state:=s',pending:=pend'},?_,rfl,rfl,h5,h6,fun i=>(h7 i).mono hx,h8⟩
 ·by_cases e:y=(ρ st).blk
  ·exact(h1 (hb e)).elim
  ·exact World.putObj_heap_other e
 ·exact World.putObj_heap_same (Array.getElem?_eq_some_iff.1 h2).1
def C5c(q:Nat×Nat)(jump:Option Code)(Q:Res)(s:St):Prop:=
 match A2.get s.h q.1 q.2 with
 |some (.loop N sl ps p _ _)=>Q (.bool jump.isNone) (A2.put s.h q.1 q.2 (.loop N sl ps p (if jump.isNone then .ready else .done) jump)) s.n
 |_=>False
theorem B5M{q:Nat×Nat}(hrd:c.rd=some q){jump:Option Code}(h:C5c q jump c.Q s){O:Nat→Prop}{ρ:Nat→Loc}{w:World}{b:Frame}{m:Machine}{cs:List Frame}(hr:HeapR w O ρ s.n s.h)(hd:C3J c.rd s.n ρ b)
  (hstep: ∀c0 cs' l v w',cs=c0::cs'→b.roundOf=some l→b.kind= .normal→(Instr.endRound l jump).run c.P w= .ok v w'→step c.P m= .next (lone (c0.finish v) cs' w')):B6j c O (A4 w O ρ s.n s.h) m b cs:=by
 unfold B6j
 rw [hrd]at hd⊢
 obtain⟨d1,d2,d3⟩:=hd
 intro c0 cs' e
 unfold C5c at h
 split at h
 ·rename_i N sl ps p s0 pend hg
  obtain⟨r,g1,g2,g3,g4,g5,_,g6,g7,g8⟩:=hr.loopSet hg
  obtain⟨g9,g10⟩:=g8 (if jump.isNone then .ready else .done) jump
  have hend:=run_endRound (P:=c.P) jump g1
  exact⟨_,ρ,_,s.n,_,_,.one (hstep c0 cs' _ _ _ e d2 d3 hend),g9,.bool _,g10,h⟩
 ·exact h.elim
theorem OK.nilR{q:Nat×Nat}(hrd:c.rd=some q)(h:C5c q none c.Q s):OK c [] s:=by
 intro O ρ a w k' b cs hr hs hd hk
 cases hk with
 |nil=>
  refine B5M hrd h hr hd fun c0 cs' l v w' e h1 h2 h3=> ?_
  subst e
  exact stepR_round_end h1 h2 h3
theorem OK.retR{q:Nat×Nat}(hrd:c.rd=some q)(h:C5c q (some .ret) c.Q s):OK c (.code .ret::k) s:=by
 intro O ρ a w k' b cs hr hs hd hk
 cases hk with
 | code hc hk=>
  rename_i cd _
  cases cd<;>simp only [Q7]at hc<;>try (cases hc;done)
  case ret=>
   refine B5M hrd h hr hd fun c0 cs' l v w' e h1 h2 h3=> ?_
   subst e
   exact stepR_round_ret h1 h2 h3
  all_goals first|(split at hc<;>first|(cases hc;done)|(split at hc<;>cases hc))|(rw [Option.map_eq_some_iff]at hc;obtain⟨_,_,hc⟩:=hc;cases hc)
theorem B9u{id:Nat}{P:Program}{N:Nat}{k:List AItem}{k':List Item}(hid:Nat.beq A9O id=false)(h:RelL P N k k'):Y3 id k=none→exitTo id k'=none:=by
 induction h with
 |nil=>intro _;rfl
 |code _ _ ih=>intro h;exact ih h
 |lp _ _ ih=>intro h;exact ih h
 |beg _ ih=>intro h;exact ih h
 |scp _ ih=>
  intro h
  simp only [Y3,hid,cond_false]at h
  exact ih h
 | blk hk ih=>
  rename_i id' k k'
  intro h
  simp only [Y3]at h
  cases hb:Nat.beq id' id with
  |true=>rw [hb]at h;cases h
  | false=>
   rw [hb]at h
   have hne:(id'==id)=false:=by
    exact YN
   simp only [exitTo,hne]
   exact ih h
theorem OK.exitR{q:Nat×Nat}(hrd:c.rd=some q){id:Nat}(hsc:Nat.beq A9O id=false)(hdr:Y3 id k=none)(h:C5c q (some (.exit id)) c.Q s):OK c (.code (.exit id)::k) s:=by
 intro O ρ a w k' b cs hr hs hd hk
 cases hk with
 | code hc hk=>
  rename_i cd _
  cases cd<;>simp only [Q7]at hc<;>try (cases hc;done)
  case exit id'=>
   injection hc with hc
   injection hc with hc
   subst hc
   have hx:=B9u hsc hk hdr
   refine B5M hrd h hr hd fun c0 cs' l v w' e h1 h2 h3=> ?_
   subst e
   exact stepR_round_exit h1 h2 hx h3
  all_goals first|(split at hc<;>first|(cases hc;done)|(split at hc<;>cases hc))|(rw [Option.map_eq_some_iff]at hc;obtain⟨_,_,hc⟩:=hc;cases hc)
def C3O(q:Nat×Nat)(s:St)(K:St→Prop):Prop:=
 match A2.get s.h q.1 q.2 with
 |some (.loop N sl ps p .ready pend)=>K ⟨s.sl,A2.put s.h q.1 q.2 (.loop N sl ps p .busy pend),s.n⟩
 |_=>False
theorem OK.beg{q:Nat×Nat}(hrd:c.rd=some q)(h:C3O q s (OK c k)):OK c (.beg::k) s:=by
 intro O ρ a w k' b cs hr hs hd hk
 cases hk with
 | beg hk=>
  unfold C3O at h
  split at h
  ·rename_i N sl ps p pend hg
   obtain⟨r,g1,g2,g3,g4,g5,_,g6,g7,g8⟩:=hr.loopSet hg
   obtain⟨g9,g10⟩:=g8 .busy pend
   have hd':=hd
   rw [hrd]at hd'
   have hbr:=run_beginRound (P:=c.P) g1 g2
   rw [←g3]at g9 g10 h
   exact(h O ρ a _ _ b cs g9 (hs.mono g10) (hd.mono (Nat.le_refl _) fun _ _=>rfl) hk).step (.one (stepR_beginRound hd'.2.1 hbr)) g10
  ·exact h.elim
def A0l(P:Program)(N:Nat)(x y:AC)(a b:Code):Prop:=(∃B,Q7 P B N a=some x)∧ ∃B,Q7 P B N b=some y
def A6E(sl:List (Nat×V)):List Nat→List V→List (Nat×V)
 |p::ps,a::as=>A6E (G0 sl p a) ps as
 |_,_=>sl
theorem C0q{E:Env}{N:Nat}: ∀(ps:List Nat) (as:List V) (vs:List Value) (sl:List (Nat×V)) (t:Array Value),as.length=vs.length→(∀i∈ps,i<N)→t.size=N→(∀(i:Nat) c v,as[i]? =some c→vs[i]? =some v→R E c v)→
  (∀i,R E (E0 sl i) (t.getD i Go.undef))→((ps.zip vs).foldl (fun(t:Array Value) (q:Nat×Value)=>t.setIfInBounds q.1 q.2) t).size=N∧
   ∀i,R E (E0 (A6E sl ps as) i) (((ps.zip vs).foldl (fun(t:Array Value) (q:Nat×Value)=>t.setIfInBounds q.1 q.2) t).getD i Go.undef)
 | [],as,vs,sl,t,_,_,ht,_,h=>⟨ht,h⟩
 |p::ps,[],[],sl,t,_,_,ht,_,h=>⟨ht,h⟩
 |p::ps,[],_::_,_,_,hl,_,_,_,_=>by simp at hl
 |p::ps,_::_,[],_,_,hl,_,_,_,_=>by simp at hl
 | p::ps,a::as,v::vs,sl,t,hl,hp,ht,hR,h=>by
  rw [A6E,List.zip_cons_cons,List.foldl_cons]
  refine C0q ps as vs (G0 sl p a) _ zy (fun i hi=>hp i (List.mem_cons_of_mem _ hi)) (by simp [ht]) (fun i c v hc hv=>hR (i+1) c v zA zt) fun i=> ?_
  have hpN:=hp p List.mem_cons_self
  rw [L2]
  by_cases hi:p=i
  ·subst hi
   rw [if_pos rfl]
   have:(t.setIfInBounds p v).getD p Go.undef=v:=by simp [Array.getD,ht,hpN]
   rw [this]
   exact hR 0 a v rfl rfl
  ·rw [if_neg hi]
   have:(t.setIfInBounds p v).getD i Go.undef=t.getD i Go.undef:=by
    simp only [Array.getD_eq_getD_getElem?,Array.getElem?_setIfInBounds]
    rw [if_neg hi]
   rw [this];exact h i
theorem J4.enter{P:Program}{b st N:Nat}{sl:List (Nat×V)}{ps:List Nat}{x y:AC}{pend:Option Code}{as:List V}{h:A2}{n:Nat}{Q:Res}(hg:A2.get h b st=some (.loop N sl ps (A0l P N x y) .ready pend))(hl:as.length=ps.length)
  (hok: ∀fn,OK ⟨P,fn,N,Q,some 0,some (b,st),none⟩ [.code x,.beg,.code y] ⟨A6E sl ps as,h,n⟩):J4 P b st as h n Q:=by
 intro w O ρ cargs hr hst hR
 obtain⟨r,g1,g2,g3,g4,g5,g0,g6,⟨⟨B1,g7⟩,B2,g8⟩,_⟩:=hr.loopSet hg
 refine⟨r,g1,?_,trivial,fun c0 cs _=> ?_⟩
 ·have h1:=hR.1
  have:r.params.size=ps.length:=by rw [←g4];simp
  omega
 ·have hfold:(r.params.zip cargs).foldl (fun tmps (t,a)=>tmps.setIfInBounds t a) r.tmps=(ps.zip cargs.toList).foldl (fun(t:Array Value) (q:Nat×Value)=>t.setIfInBounds q.1 q.2) r.tmps:=by
   rw [←Array.foldl_toList,Array.toList_zip,g4]
  have hsim:=C0q (E:=A4 w O ρ n h) ps as cargs.toList sl r.tmps (by simpa using hR.1) g0 g5 (fun i c v hc hv=>hR.2 i c v hc zt) g6
  let bf:Frame:={(default:Frame)with fn:=r.fn,kind:= .normal,roundOf:=some (ρ st).blk}
  have hb0:Frame.round (ρ st).blk r.fn ((r.params.zip cargs).foldl (fun tmps (t,a)=>tmps.setIfInBounds t a) r.tmps) r.assign r.body .normal=
    bf.atR {tmps:=(ps.zip cargs.toList).foldl (fun(t:Array Value) (q:Nat×Value)=>t.setIfInBounds q.1 q.2) r.tmps,defers:= []} [.code r.assign,.beginRound,.code r.body]:=by
   rw [hfold]
   simp [Frame.round,Frame.atR,bf]
  have key:=hok default O ρ {tmps:=(ps.zip cargs.toList).foldl (fun(t:Array Value) (q:Nat×Value)=>t.setIfInBounds q.1 q.2) r.tmps,defers:= []} w [.code r.assign,.beginRound,.code r.body] bf (c0::cs) hr ⟨hsim.1,fun _ e=>by injection e with e;exact e ▸ Nat.zero_le _,.nil,hsim.2⟩ ⟨hst,rfl,rfl⟩ (.code g7 (.beg (.code g8 .nil)))
  obtain⟨w',ρ',h',n',v,x',q1,q2,q3,q4,q5⟩:=key c0 cs rfl
  rw [←hb0]at q1
  exact⟨.returned v,w',⟨v,x',h',n',ρ',rfl,q5,q2,q3,q4⟩,stepsIn_wide.2 q1⟩
def C2l(nm st:Nat)(sl:List (Nat×V))(K:Option Code→St→Prop):Res:=fun _ h n=>
 match A2.get h nm st with
 |some (.loop _ _ _ _ s pend)=>s≠ .busy∧K pend ⟨sl,A2.del h nm,n⟩
 |_=>False
def D6e(c:Cx)(k:List AItem):Option Code→St→Prop
 |none,s=>OK c k s
 |some .ret,s=>OK c (.code .ret::k) s
 |some (.exit id),s=>OK c (.code (.exit id)::k) s
 |_,_=>False
theorem OK.rng{nm:Nat}{g:Opd}{ps:List Nat}{x y:AC}{f:FuncId}{cs:List V}(hbs:c.bs≠none)(hrd:c.rd=none)(hf:s.ev g= .fn f cs)(hb:M4 c.P f=true)
  (h:A0 c.P f (.yld nm s.n::cs) (A2.put s.h nm s.n (.loop c.N s.sl ps (A0l c.P c.N x y) .ready none)) (s.n+1) (C2l nm s.n s.sl (D6e c k))):OK c (.code (.rng nm g ps x y)::k) s:=by
 intro O ρ a w k' b cs' hr hs hd hk
 have hd0:=hd
 rw [hrd]at hd
 cases hk with
 | code hc hk=>
  rename_i cd k'
  cases cd<;>simp only [Q7]at hc<;>try (cases hc;done)
  case rangeFunc g' ps' x' y'=>
   split at hc
   ·rename_i g2 x2 y2 hg' hx' hy'
    split at hc
    ·rename_i hps
     injection hc with hc
     injection hc with e1 e2 e3 e4 e5
     subst e2;subst e3;subst e4;subst e5
     generalize nm=nm0 at*
     have hev:=(hs.evr hr.gl).ev hg'
     rw [hf]at hev
     obtain⟨vs,hv,hRL⟩:=hev.fn_inv
     have hps': ∀i∈ps'.toList,i<c.N:=fun i hi=>Nat.le_of_ble_eq_true (List.all_eq_true.1 hps i hi)
     have henter:=run_enterLoop_outer (P:=c.P) (w:=w) b.fn a.tmps ps' x' y'
     generalize hL:(Loop.mk LoopState.ready none b.fn a.tmps ps' x' y' w.heap.size)=L at henter
     generalize hw1:(w.alloc (.deferred (some []))).alloc (.loop L)=w1 at henter
     rw [←hd]at henter
     -- the new world
     obtain⟨hr0,hx0⟩:=hr.world (w':=w.alloc (.deferred (some []))) (Wd.alloc w _) (fun z hz=>by show (w.heap.push _)[z]? =_;rw [Array.getElem?_push,if_neg (Nat.ne_of_lt hz)])
     let ρ1:Nat→Loc:=fun st=>if st=s.n then⟨w.heap.size+1,0,0,1⟩else ρ st
     have hρ1: ∀st,st<s.n→ρ1 st=ρ st:=fun st hst=>by simp [ρ1,Nat.ne_of_lt hst]
     have hρn:ρ1 s.n=⟨w.heap.size+1,0,0,1⟩:=by simp [ρ1]
     have hnew:w1.heap[w.heap.size+1]? =some (.loop L):=by
      have:=World.alloc_heap_new (w.alloc (.deferred (some []))) (.loop L)
      rw [World.size_alloc,hw1]at this
      exact this
     have hdef:w1.heap[w.heap.size]? =some (.deferred (some [])):=by
      rw [←hw1]
      show ((w.heap.push _).push _)[w.heap.size]? =_
      rw [Array.getElem?_push,if_neg zg,Array.getElem?_push,if_pos rfl]
     obtain⟨hr1,hx1⟩:=HeapR.step (w':=w1) (ρ':=ρ1) (n':=s.n+1) (b:=nm0) (st:=s.n) (x:= .loop c.N s.sl ps'.toList (A0l c.P c.N x2 y2) .ready none) hr0 (Nat.le_succ _) hρ1 (Nat.lt_succ_self _)
      (by rw [←hw1];exact Wd.alloc _ _) (fun z hz _=>by rw [←hw1];show ((w.alloc _).heap.push _)[z]? =_;rw [Array.getElem?_push,if_neg (Nat.ne_of_lt hz)])
      (.inr (.inl (by rw [hρn,World.size_alloc];exact Nat.le_refl _)))
      (fun hx=>⟨by show (ρ1 s.n).cap≠0;rw [hρn];simp,hps',L,by show w1.heap[(ρ1 s.n).blk]? =_;rw [hρn];exact hnew,by rw [←hL],by rw [←hL],by rw [←hL],by rw [←hL];exact hs.size,fun i=>by rw [←hL];exact((hs.slot i).mono hx0).mono hx,by rw [←hL];exact⟨⟨_,hx'⟩,_,hy'⟩⟩)
     have hx01:=hx0.trans hx1
     have hyv:R (A4 w1 O ρ1 (s.n+1) (A2.put s.h nm0 s.n (.loop c.N s.sl ps'.toList (A0l c.P c.N x2 y2) .ready none))) (.yld nm0 s.n) (.func (.yield (w.heap.size+1)) #[] #[]):=by
      have:=R.yld (E:=A4 w1 O ρ1 (s.n+1) (A2.put s.h nm0 s.n (.loop c.N s.sl ps'.toList (A0l c.P c.N x2 y2) .ready none))) nm0 s.n (Nat.lt_succ_self _)
      simp only [hρn]at this
      exact this
     have hargs:RL (A4 w1 O ρ1 (s.n+1) (A2.put s.h nm0 s.n (.loop c.N s.sl ps'.toList (A0l c.P c.N x2 y2) .ready none))) (.yld nm0 s.n::cs) (#[.func (.yield (w.heap.size+1)) #[] #[]]++vs):=by
      refine⟨by simp [hRL.1];omega,fun i c0 v hc hv=> ?_⟩
      cases i with
      |zero=>
       rw [Array.getElem?_append_left zg]at hv
       simp at hc hv
       subst hc;subst hv
       exact hyv
      |succ i=>
       simp only [List.getElem?_cons_succ]at hc
       rw [Array.getElem?_append_right zg]at hv
       simp only [List.size_toArray,List.length_cons,List.length_nil,Nat.zero_add,Nat.add_sub_cancel]at hv
       exact(hRL.2 i c0 v hc hv).mono hx01
     have evc:a.eval (.const (.func (.yield (w.heap.size+1)) #[] #[]))= .func (.yield (w.heap.size+1)) #[] #[]:=rfl
     have hres:(resolve a.eval (rangeCall g' (w.heap.size+1)) 0).run c.P w1= .ok {target:= .fn (.func f) vs,args:= #[.func (.yield (w.heap.size+1)) #[] #[]]} w1:=by
      simp [resolve,Deferred.ofValue,hv,evc]
     have hinv:(invoke (.fn (.func f) vs) #[.func (.yield (w.heap.size+1)) #[] #[]]).run c.P w1= .ok (.enter f (#[.func (.yield (w.heap.size+1)) #[] #[]]++vs)) w1:=by
      simp [invoke,A0B hb]
     have s1:=stepR_rangeFunc (P:=c.P) (b:=b) (a:=a) (k:=k') (cs:=cs') (w:=w) henter hres hinv
     obtain⟨e,w3,fr,⟨v,r,h',n',ρ',rfl,hQ,hr3,hRv,hx3⟩,hcomes,hfn,hleave⟩:=h w1 O ρ1 _ hr1 hargs (b.atR {a with defers:= [{target:= .collected w.heap.size,args:= #[]}]++a.defers} (.inRangeFunc (w.heap.size+1)::k')::cs')
     unfold C2l at hQ
     split at hQ
     ·rename_i N2 sl2 ps2 p2 st2 pend hg
      obtain⟨hbusy,hK⟩:=hQ
      obtain⟨r2,g1,g2,g3,g4,g5,_,g6,g7,g8⟩:=hr3.loopSet hg
      subst g3
      obtain⟨g9,g10⟩:=g8 .exhausted r2.pending
      have hblk:(ρ' s.n).blk=w.heap.size+1:=by
       have h9:ρ' s.n=ρ1 s.n:=hx3.ρ s.n (Nat.lt_succ_self _)
       rw [h9,hρn]
      rw [hblk]at g1 g9 g10
      have hend:=run_endLoop (P:=c.P) g1 (by rw [g2];exact hbusy)
      obtain⟨hr4,hx4⟩:=g9.drop (h':=A2.del h' nm0) (fun e he=>List.mem_cons_of_mem _ he)
      have hx34:=(hx3.trans g10).trans hx4
      have hxall:=hx01.trans hx34
      have s2:=stepR_endRangeFunc (P:=c.P) (b:=b) (a:={a with defers:= [{target:= .collected w.heap.size,args:= #[]}]++a.defers}) (k:=k') (cs:=cs') hend
      have sm:=step_leave_returned (P:=c.P) (cs:=cs') (c:=b.atR {a with defers:= [{target:= .collected w.heap.size,args:= #[]}]++a.defers} (.inRangeFunc (w.heap.size+1)::k')) hleave
      rw [finish_atR_inRangeFunc]at sm
      have hcomes:Steps c.P _ _:=hcomes
      have sall:=Steps.head s1 (hcomes.trans (.head sm (.one s2)))
      have hno: ¬Own ρ1 (A2.put s.h nm0 s.n (.loop c.N s.sl ps'.toList (A0l c.P c.N x2 y2) .ready none)) w.heap.size:=by
       rintro⟨e,he,hc1,hc2⟩
       rcases List.mem_cons.1 he with rfl|he
       ·simp only [hρn]at hc2
        omega
       ·have he:=(A2.mem_del.1 he).1
        rw [hρ1 _ (hr.lt e he)]at hc1 hc2
        have:=hr.real ⟨e,he,hc1,hc2⟩
        omega
      have hdefw:w.heap.size<w1.heap.size:=(Array.getElem?_eq_some_iff.1 hdef).1
      obtain⟨d1,d2⟩:=hx34.blk w.heap.size hdefw hno
      have hsim:Sim c.P c.bs c.N (A4 (w3.putObj (w.heap.size+1) (.loop {r2 with state:= .exhausted,pending:=r2.pending})) O ρ' n' (A2.del h' nm0)) s.sl {a with defers:= [{target:= .collected w.heap.size,args:= #[]}]++a.defers}:=by
       refine⟨hs.size,fun b0 e=>Nat.le_trans (hs.base b0 e) hxall.size,⟨fun e=>(hbs e).elim,?_,fun d hd=> ?_⟩,fun i=>(hs.slot i).mono hxall⟩
       ·refine List.pairwise_cons.2 ⟨fun d' hm he=> ?_,hs.defers.2.1⟩
        subst he
        rcases hs.defers.2.2 _ hm with hq|⟨r',e,_,_,h4⟩
        ·exact hq
        injection e with e
        injection e with e
        subst e
        have:=(Array.getElem?_eq_some_iff.1 h4).1
        exact absurd this (Nat.lt_irrefl _)
       ·rcases List.mem_cons.1 hd with rfl|hd
        ·exact .inr ⟨w.heap.size,rfl,hs.base,d2,d1.trans hdef⟩
        ·exact(hs.defers.mono hxall).2.2 d hd
      have hd4:=hd0.mono hxall.n hxall.ρ
      obtain⟨j,hj⟩: ∃j,j=r2.pending:=⟨_,rfl⟩
      have sall':Steps c.P (lone (b.atR a (.code (.rangeFunc g' ps' x' y')::k')) cs' w) (lone (b.atR {a with defers:= [{target:= .collected w.heap.size,args:= #[]}]++a.defers} ((j.map Item.code).toList++k')) cs' (w3.putObj (w.heap.size+1) (.loop {r2 with state:= .exhausted,pending:=r2.pending}))):=by
       rw [hj];exact sall
      rw [←hj]at hK
      cases j with
      |none=>exact(hK O ρ' _ _ k' b cs' hr4 hsim hd4 hk).step sall' hxall
      |some cd=>
       cases cd<;>first|(exact hK.elim)|skip
       ·exact KF
       ·exact KF
     ·exact hQ.elim
    ·cases hc
   ·cases hc
  all_goals first|(split at hc<;>first|(cases hc;done)|(split at hc<;>cases hc))|(rw [Option.map_eq_some_iff]at hc;obtain⟨_,_,hc⟩:=hc;cases hc)
end
end Go.Abs
