/-
 The translation of code into abstract code, and that it keeps the meaning, in whatever order. No condition.
-/
import Derived.Test.YtnihmhbcjpcobaaGreatDoorSnd
set_option linter.unusedVariables false
set_option linter.unusedSimpArgs false
namespace Go.Abs
def C7e(P:Program)(kt:TypeId):Option Nat:=
 match P.underlying kt with
 |some (.int _)=>some 0
 |some .string=>some 1
 |some .bool=>some 2
 |_=>none
def U3(P:Program)(t:TypeId):Option (TypeId×TypeInfo):=
 match P.underlying t with
 |some (.slice e)=>(P.info? e).map fun i=>(e,i)
 |_=>none
def B4g(P:Program)(d:Option Nat)(e:TypeId):Option AO:=
 match d,P.info? e with
 |some d,some i=>match i.zero with
  |some z=>(zV z).map fun zv=> .box d i.size (.c zv)
  |none=>none
 |_,_=>none
def B9y(P:Program)(d:Option Nat)(e:TypeId)(x:Operand):Option AO:=
 match d,P.info? e,B0 x with
 |some d,some i,some x=>some (.box d i.size x)
 |_,_,_=>none
def B4h(P:Program)(t:TypeId)(parts:Array (Nat×Operand)):Option AO:=
 match P.underlying t,P.info? t with
 | some (.struct fs),some i=>match i.zero,fs.toList.mapM (B2r P)with
  |some z,some pl=>match cVs z.cells.toList,A4l (pl[·]?) parts.toList with
   |some zs,some qs=>some (.build zs qs)
   |_,_=>none
  |_,_=>none
 | some (.array _ e),some i=>match i.zero,P.info? e with
  |some z,some ei=>match cVs z.cells.toList,A4l (fun i=>some (i*ei.size,ei.size)) parts.toList with
   |some zs,some qs=>some (.build zs qs)
   |_,_=>none
  |_,_=>none
 |_,_=>none
def S4(P:Program)(hint:Bool)(d:Option Nat)(t:TypeId)(len:Nat)(parts:Array (Nat×Operand)):Option AO:=
 match U3 P t,d with
 | some (_,i),some d=>match i.zero,Q8 (parts.toList.map (·.2))with
  |some z,some ys=>match cVs z.cells.toList with
   | some zs=>if zs.length=i.size∧len*i.size≤16777216∧parts.toList.map (·.1)=List.range' 0 parts.toList.length∧parts.toList.length=len then
     some (if hint then .mkisl i.size ys else .mkrow d i.size ys)else none
   |none=>none
  |_,_=>none
 |_,_=>none
def B6u(P:Program)(t:TypeId)(x:Operand):Option AO:=
 match A9D P t,B0 x with
 |some (n,a),some x=>some (.load n a x)
 |_,_=>none
def B4l(P:Program)(t:TypeId)(x v:Operand):Option AO:=
 match P.info? t,B0 x,B0 v with
 |some i,some x,some v=>some (.store i.size x v)
 |_,_,_=>none
def C2r(P:Program)(t:TypeId):Option Nat:=
 match P.underlying t with
 |some (.pointer _)=>some 0
 |some (.map _ _)=>some 1
 |some .bool=>some 2
 |_=>none
def B6P(P:Program)(t:TypeId):Bool:=
 match P.underlying t with
 |some (.struct _)=>true
 |_=>false
def B4n:BinOp→Option Bool
 | .eql=>some false
 | .neq=>some true
 |_=>none
def D1b:BinOp→Option Bool
 | .shl=>some true
 | .shr=>some false
 |_=>none
def B8x:Operand→Bool
 | .const .nilIface=>true
 |_=>false
theorem B8y{x:Operand}(h:B8x x=true):x= .const .nilIface:=by
 unfold B8x at h
 split at h
 ·rfl
 ·cases h
def B2p(P:Program)(t:TypeId):Bool:=
 match P.underlying t with
 |some (.interface _)=>true
 |_=>false
def B0T(P:Program)(op:BinOp)(t:TypeId)(x y:Operand):Option AO:=
 match B0 x,B4n op with
 |some x,some neg=>if B8x y&&B2p P t then some (.isnil neg x)else none
 |_,_=>none
def B8B(P:Program)(t:TypeId):Operand→Bool
 | .const (.slice none 0 0)=>match P.underlying t with
  |some (.slice _)=>true
  |_=>false
 |_=>false
theorem B8C{P:Program}{t:TypeId}{x:Operand}(h:B8B P t x=true):x= .const (.slice none 0 0)∧ ∃e,P.underlying t=some (.slice e):=by
 unfold B8B at h
 split at h
 ·split at h
  ·rename_i e he;exact⟨rfl,e,he⟩
  ·cases h
 ·cases h
def B8z(P:Program)(t:TypeId):Operand→Bool
 | .const .nilFunc=>match P.underlying t with
  |some (.func ..)=>true
  |_=>false
 |_=>false
theorem B8A{P:Program}{t:TypeId}{x:Operand}(h:B8z P t x=true):x= .const .nilFunc∧ ∃a b c,P.underlying t=some (.func a b c):=by
 unfold B8z at h
 split at h
 ·split at h
  ·rename_i a b c he;exact⟨rfl,a,b,c,he⟩
  ·cases h
 ·cases h
def B5g(P:Program)(op:BinOp)(t:TypeId)(x y:Operand):Option AO:=
 match B0 x,B4n op with
 |some x,some neg=>if B8B P t y then some (.eqn false neg x)else if B8z P t y then some (.eqn true neg x)else none
 |_,_=>none
def A9S(P:Program)(op:BinOp)(t:TypeId)(x y:Operand):Option AO:=
 match B0T P op t x y with
 |some a=>some a
 |none=>
 match B5g P op t x y with
 |some a=>some a
 |none=>
 match B0 x,B0 y with
 | some x,some y=>match D1b op with
  |some l=>some (.sh l x y)
  | none=>match B4n op with
   | some neg=>match C2r P t with
    |some k=>some (.eqp k neg x y)
    | none=>if B6P P t then
      match M4 P 8 t with
      |some e=>if P.eqGuardType P.depth t=false then some (.eqa neg e x y)else none
      |none=>none
     else some (.bin op x y)
   |none=>some (.bin op x y)
 |_,_=>none
def C2F(P:Program)(e:TypeId):Bool:=
 match P.underlying e with
 |some (.int .u8)=>true
 |_=>false
def B6s(P:Program)(d:Option Nat)(a b:TypeId)(x:Operand):Option AO:=
 match P.underlying a,P.underlying b,B0 x with
 |some _,some (.int j),some x=>some (.conv j x)
 |some (.slice e),some .string,some x=>if C2F P e then some (.bst x)else none
 |some .string,some (.slice e),some x=>match d with
  |some d=>if C2F P e then some (.byts d x)else none
  |none=>none
 |some (.slice e),some (.slice _),some x=>if a=b∧C2F P e=true then some (.cvr x)else none
 |_,_,_=>none
def B4i(P:Program)(t:TypeId)(x:Operand)(i:Nat):Option AO:=
 match P.underlying t,B0 x with
 | some (.struct fs),some x=>match fs[i]? with
  |some f=>match P.info? f.type with
   |some ti=>if ti.size=0 then none else some (.faddr f.offset x)
   |none=>none
  |none=>none
 |_,_=>none
def B9C(P:Program)(t:TypeId)(x:Operand)(i:Nat):Option AO:=
 match P.underlying t,B0 x with
 |some (.struct fs),some x=>match fs[i]? with
  |some f=>(A9D P f.type).map fun q=> .fld f.offset q.1 q.2 x
  |none=>none
 |_,_=>none
def B4j(P:Program)(t:TypeId)(x i:Operand):Option AO:=
 match P.underlying t,B0 x,B0 i with
 |some (.slice e),some x,some i=>(P.info? e).map fun ti=> .iaddr ti.size x i
 |some (.array n e),some x,some i=>(P.info? e).map fun ti=> .iaddrA n ti.size x i
 |_,_,_=>none
def B9E(P:Program)(t:TypeId)(x i:Operand):Option AO:=
 match P.underlying t,B0 x,B0 i with
 |some .string,some x,some i=>some (.idx x i)
 |some (.array n e),some x,some i=>match P.info? e,A9D P e with
  |some ti,some q=>some (.idxA n ti.size q.1 q.2 x i)
  |_,_=>none
 |_,_,_=>none
def B9I(P:Program)(d:Option Nat)(t:TypeId)(x:Operand):Option AO:=
 match d,U3 P t,B0 x with
 |some d,some (_,i),some x=>some (.slz d i.size x)
 |_,_,_=>none
def B9A(P:Program)(t:TypeId)(x:Operand):Option AO:=
 match U3 P t,B0 x with
 |some (_,i),some x=>match i.zero with
  |some z=>(cVs z.cells.toList).map fun zs=> .clr zs x
  |none=>none
 |_,_=>none
def B2G(P:Program)(d:Option Nat)(t:TypeId)(l c:Operand):Option AO:=
 match l,c,d,U3 P t with
 | .tmp a,.tmp b,some d,some (_,i)=>if a=b∧i.bytes≤1024 then
   match i.zero with
   |some z=>match cVs z.cells.toList with
    |some zs=>if zs.length=i.size then some (.mksl d zs (.t a))else none
    |none=>none
   |none=>none
  else none
 | .const (.int .i64 a),.const (.int .i64 b),some d,some (_,i)=>if a=b∧i.bytes≤1024 then
   match i.zero with
   |some z=>match cVs z.cells.toList with
    |some zs=>if zs.length=i.size then some (.mksl d zs (.c (.int .i64 a)))else none
    |none=>none
   |none=>none
  else none
 |_,_,_,_=>none
def B9H(P:Program)(t:TypeId)(x:Operand)(lo hi:Option Operand):Option AO:=
 match P.underlying t,B0 x,A5F lo,A5F hi with
 |some (.slice e),some x,some lo,some hi=>(P.info? e).map fun ti=> .slc ti.size x lo hi
 |some .string,some x,some lo,some hi=>some (.sls x lo hi)
 |_,_,_,_=>none
def B3O:Operand→Option IntKind
 | .const (.int j 0)=>some j
 |_=>none
theorem B3P{x:Operand}{j:IntKind}(h:B3O x=some j):x= .const (.int j 0):=by
 unfold B3O at h
 split at h
 ·injection h with h;subst h;rfl
 ·cases h
def C2i(P:Program)(d:Option Nat)(t:TypeId)(x:Operand)(lo hi mx:Option Operand):Option AO:=
 match mx with
 |none=>B9H P t x lo hi
 |some m=>match lo,hi.bind B3O,B3O m with
  |none,some _,some _=>B9I P d t x
  |_,_,_=>none
def B4k(P:Program)(d:Option Nat)(t:TypeId)(r:Option Operand):Option AO:=
 match d,r with
 |some d,none=>some (.mkmap d)
 |some d,some (.const (.int _ _))=>match P.underlying t with
  |some (.map _ _)=>some (.mkmap d)
  |_=>none
 |_,_=>none
def B6Y(P:Program)(t:TypeId):Option (Nat×TypeId):=
 match P.underlying t with
 |some (.map k e)=>(C7e P k).map fun kd=>(kd,e)
 |_=>none
def B6v(P:Program)(t:TypeId)(m x:Operand)(ok:Bool):Option AO:=
 match B6Y P t,B0 m,B0 x with
 | some (kd,e),some m,some x=>match P.info? e with
  |some i=>match i.zero with
   |some z=>(zV z).map fun zv=> .look kd zv ok m x
   |none=>none
  |none=>none
 |_,_,_=>none
def B2H(P:Program)(t:TypeId)(m x v:Operand):Option AO:=
 match B6Y P t,B0 m,B0 x,B0 v with
 |some (kd,_),some m,some x,some v=>some (.mput kd m x v)
 |_,_,_,_=>none
def B9F(P:Program)(t:TypeId)(x:Operand):Option AO:=
 match P.underlying t,B0 x with
 |some (.slice _),some x=>some (.len 0 x)
 |some .string,some x=>some (.len 1 x)
 |some (.map _ _),some x=>some (.len 2 x)
 |some (.array n _),some _=>some (.lenc n)
 |_,_=>none
def C5A(P:Program)(u:TypeId):Bool:=
 match P.underlying u with
 |some (.slice _)|some .string=>true
 |_=>false
def B9x(P:Program)(d:Option Nat)(t u:TypeId)(x y:Operand):Option AO:=
 match d,U3 P t,B0 x,B0 y with
 |some d,some (_,i),some x,some y=>match i.zero with
  |some z=>if C5A P u=true∧z.cells.size=i.size∧i.bytes≤1024 then(if D1W.contains (d/10000)then some (.apb (140737488355328/i.bytes) d i.size x y)else some (.app d i.size x y))else none
  |none=>none
 |_,_,_,_=>none
def B6t(P:Program)(t:TypeId)(x y:Operand):Option AO:=
 match U3 P t,B0 x,B0 y with
 |some (_,i),some x,some y=>some (.copy i.size x y)
 |_,_,_=>none
def B9B(P:Program)(t:TypeId)(m x:Operand):Option AO:=
 match B6Y P t,B0 m,B0 x with
 |some (kd,_),some m,some x=>some (.mdel kd m x)
 |_,_,_=>none
def B9D(P:Program)(d:Option Nat)(t u:TypeId)(x y:Operand):Option AO:=
 match d,U3 P t,P.underlying u,B0 x,B0 y with
 | some d,some (_,i),some (.int .i64),some x,some y=>match i.zero with
  |some z=>match cVs z.cells.toList with
   |some zs=>if zs.length=i.size∧i.bytes≤1024∧i.size≠0 then some (.grw d zs x y)else none
   |none=>none
  |none=>none
 |_,_,_,_,_=>none
def B9z(P:Program)(t:TypeId)(x:Operand):Option AO:=
 match P.underlying t,B0 x with
 |some (.slice _),some x=>some (.cap0 x)
 |_,_=>none
def B9G(P:Program)(d:Option Nat)(t:TypeId)(x:Operand):Option AO:=
 match P.underlying t,d,B0 x with
 |some (.map _ _),some d,some x=>some (.rgm d x)
 |_,_,_=>none
def A3S(P:Program)(d:Option Nat)(b:Builtin)(args:List Operand)(ts:List TypeId):Option AO:=
 match b,args,ts with
 | .len,[x],[t]=>B9F P t x
 | .append,[x,y],[t,u]=>match P.underlying u with
  |some (.int _)=>B9D P d t u x y
  |_=>B9x P d t u x y
 | .cap,[x],[t]=>B9z P t x
 | .max,[x,y],_=>match B0 x,B0 y with
  |some x,some y=>some (.mm true [x,y])
  |_,_=>none
 | .min,[x,y],_=>match B0 x,B0 y with
  |some x,some y=>some (.mm false [x,y])
  |_,_=>none
 | .delete,[m,x],t::_=>B9B P t m x
 | .copy,[x,y],[t,u]=>B6t P t x y
 | .clear,[x],[t]=>B9A P t x
 |_,_,_=>none
def B2F(P:Program)(hint:Bool)(f:Operand)(args:List Operand):Option AO:=
 match Q8 args with
 |some xs=>match f with
  | .func g=>if J8 P g then some (if hint&&C5M.any (Nat.beq g)then .pcall g xs else .call g xs)else none
  | .tmp i=>some (.callv (.t i) xs)
  |_=>none
 |none=>none
def B6d(d:Option Nat):AO→AO
 | .bin op (.t i) (.t j)=>if C6e.any (fun q=>d==some q.1&&(i==q.2.1&&j==q.2.2))then .binw op (.t i) (.t j)else .bin op (.t i) (.t j)
 | .bin .mul (.t i) (.c (.int .u32 z))=> .binw .mul (.t i) (.c (.int .u32 z))
 |a=>a
theorem C1T(d:Option Nat)(a:AO):B6d d a=a∨ ∃op x y,a= .bin op x y∧B6d d a= .binw op x y:=by
 unfold B6d
 split
 ·split
  ·exact .inr ⟨_,_,_,rfl,rfl⟩
  ·exact .inl rfl
 ·exact .inr ⟨_,_,_,rfl,rfl⟩
 ·exact .inl rfl
def B6e(d:Option Nat)(op:UnOp):Opd→AO
 | .t i=>match op with
  | .neg=>if C6e.any (fun q=>d==some q.1&&(i==q.2.1&&i==q.2.2))then .negw (.t i)else .un .neg (.t i)
  |o=> .un o (.t i)
 |x=> .un op x
theorem C1U(d:Option Nat)(op:UnOp)(x:Opd):B6e d op x= .un op x∨(op= .neg∧B6e d op x= .negw x):=by
 unfold B6e
 split
 ·split
  ·split
   ·exact .inr ⟨rfl,rfl⟩
   ·exact .inl rfl
  ·exact .inl rfl
 ·exact .inl rfl
def B6w(P:Program)(hint:Bool)(d:Option Nat)(op:Op):Option AO:=
 match op with
 | .move x| .assign x=>(B0 x).map .mov
 | .pick c a b=>match B0 c,B0 a,B0 b with
  |some c,some a,some b=>some (.pick c a b)
  |_,_,_=>none
 | .nilCheck x=>(B0 x).map .nilck
 | .extract x i=>(B0 x).map (.ext i)
 | .unOp op _ x=>(B0 x).map (B6e d op)
 | .alloc e=>B4g P d e
 | .box e x=>B9y P d e x
 | .build t parts=>B4h P t parts
 | .buildSlice t len parts=>S4 P hint d t len parts
 | .load t x=>B6u P t x
 | .store t x v=>B4l P t x v
 | .binOp op t x y _=>(A9S P op t x y).map (B6d d)
 | .convert a b x=>B6s P d a b x
 | .range t x=>B9G P d t x
 | .next x false=>(B0 x).map .nxm
 | .entry x=>(B0 x).map .ent
 | .fieldAddr t x i=>B4i P t x i
 | .field t x i=>B9C P t x i
 | .indexAddr t x i=>B4j P t x i
 | .index t x i=>B9E P t x i
 | .makeSlice t l c=>B2G P d t l c
 | .slice t x lo hi mx=>C2i P d t x lo hi mx
 | .makeMap t r=>B4k P d t r
 | .lookup t m x ok=>B6v P t m x ok
 | .mapUpdate t m x v| .insert t m x v=>B2H P t m x v
 | .makeFunc (.func f) first xs=>if first.size=0 then(Q8 xs.toList).map (.mkfn f)else none
 | .call c=>match c.callee with
  | .builtin b=>A3S P d b c.args.toList c.argTypes.toList
  | .value f=>B2F P hint f c.args.toList
  |_=>none
 |_=>none
section
variable {P:Program} {k:Res} {w:World} {O:Nat→Prop} {ρ:Nat→Loc} {s:St} {η:Operand→Value} {o:Oper} {ao:AO} {d:Option Nat} {hint:Bool}
theorem A9f{e:TypeId}(h:C2F P e=true):P.underlying e=some (.int .u8):=by
 unfold C2F at h
 split at h
 ·assumption
 ·cases h
theorem A7e{cs:Array Value}{zs:List V}(h:cVs cs.toList=some zs):(∀E:Env,RL E zs cs)∧ ∀(i:Nat) v,cs[i]? =some v→v.oneCell'=true:=by
 refine⟨fun E=> ?_,fun i v hv=> ?_⟩
 ·obtain⟨h1,h2,_⟩:=B9w (E:=E) h
  exact⟨by simpa using h1,fun i c v hc hv=>h2 i c v hc (by simpa using hv)⟩
 ·obtain⟨_,_,h3⟩:=B9w (E:=⟨default,fun _=>False,fun _=>False,fun _=>default,0⟩) h
  exact h3 i v (by simpa using hv)
theorem B8D{kt:TypeId}{kd:Nat}(h:C7e P kt=some kd):B5a P kt kd:=by
 unfold C7e at h
 split at h<;>first|(cases h;done)|skip
 ·rename_i j hu;injection h with h;exact .inl ⟨h.symm,_,hu⟩
 ·rename_i hu;injection h with h;exact .inr (.inl ⟨h.symm,hu⟩)
 ·rename_i hu;injection h with h;exact .inr (.inr ⟨h.symm,hu⟩)
theorem F3{t:TypeId}{q:TypeId×TypeInfo}(h:U3 P t=some q):P.underlying t=some (.slice q.1)∧P.info? q.1=some q.2:=by
 unfold U3 at h
 split at h
 ·rename_i e hu
  rw [Option.map_eq_some_iff]at h
  obtain⟨i,hi,rfl⟩:=h
  exact⟨hu,hi⟩
 ·cases h
theorem A3U{t:TypeId}{kd:Nat}{e:TypeId}(h:B6Y P t=some (kd,e)): ∃kt,P.underlying t=some (.map kt e)∧B5a P kt kd:=by
 unfold B6Y at h
 split at h
 ·rename_i kt e' hu
  rw [Option.map_eq_some_iff]at h
  obtain⟨i,hi,h⟩:=h
  injection h with h1 h2
  subst h1;subst h2
  exact⟨kt,hu,B8D hi⟩
 ·cases h
theorem A2C{g:FuncId}{args:Array Value}(h:J8 P g=true)(w:World):(callFunc g args).run P w= .ok (.enter g args) w:=by
 unfold J8 at h
 split at h
 ·rename_i fn hf
  rw [Bool.and_eq_true]at h
  obtain⟨h1,h2⟩:=h
  have h3:fn.body.isNone=false:=by cases hb:fn.body<;>simp_all
  have h4:(fn.name== "runtime.NumGoroutine")=false:=by simpa using h2
  have h5: ¬(fn.name== "runtime.NumGoroutine")=true:=by rw [h4];simp
  simp only [callFunc,Sem.run_bind,run_program,Result.andThen_ok,hf]
  rw [if_neg h5,if_neg (by rw [h3];simp)]
  rfl
 ·cases h
theorem C3n{f:Operand}{args:Array Operand}{ts:Array TypeId}(ho:o.op= .call {callee:= .value f,args,argTypes:=ts})(hc:B2F P hint f args.toList=some ao)
  (hr:HeapR w O ρ s.n s.h) (he:EvR (A5 w O ρ s.n s.h) s η) (hk:A7 P ao s k):B8 P k w O ρ s.h s.n ((execOp η o).run P w):=by
 unfold B2F at hc
 split at hc
 ·rename_i xs hxs
  have hargs:=he.evs hxs
  have hmap:(args.map η)=(args.toList.map η).toArray:=by apply Array.ext';simp
  split at hc
  ·rename_i g
   split at hc
   ·rename_i hb
    injection hc with hc
    have hk:A2 P g (xs.map s.ev) s.h s.n k:=by
     subst hc
     split at hk
     ·obtain⟨r,h1,h2⟩:=hk
      exact h1 k h2
     ·exact hk
    have hrun:(execOp η o).run P w= .ok (.enter g (args.map η)) w:=by
     simp [execOp,ho,resolve,Deferred.ofValue,he.2.2.1,invoke,A2C hb]
    rw [hrun]
    refine⟨rfl,_,?_,hk⟩
    rw [hmap];exact hargs
   ·cases hc
  ·rename_i i
   injection hc with hc
   subst hc
   have hf:=he.1 i
   simp only [A7,St.ev]at hk
   generalize C3 s.sl i=vf at*
   unfold A7f at hk
   split at hk
   ·rename_i g cs
    obtain⟨hb,hk⟩:=hk
    obtain⟨vs,hv,hR⟩:=hf.fn_inv
    have hrun:(execOp η o).run P w= .ok (.enter g (args.map η++vs)) w:=by
     simp [execOp,ho,resolve,Deferred.ofValue,hv,invoke,A2C hb]
    rw [hrun]
    refine⟨rfl,_,?_,hk⟩
    rw [hmap]
    refine⟨by simp [hR.1,hargs.1],fun q c u hc hu=> ?_⟩
    rw [List.getElem?_append]at hc
    rw [Array.getElem?_append]at hu
    have hl:=hargs.1
    split at hc
    ·rename_i hq
     rw [if_pos (by rw [←hl];exact hq)]at hu
     exact hargs.2 q c u hc hu
    ·rename_i hq
     rw [if_neg (by rw [←hl];exact hq)]at hu
     rw [hl]at hc
     exact hR.2 _ c u hc hu
   ·rename_i b0 st0
    obtain⟨hst,hv⟩:=hf.yld_inv
    obtain⟨r,h1,h2,h3⟩:=hk w O ρ _ hr hst hargs
    have hrun:(execOp η o).run P w= .ok (.round (ρ st0).blk r.fn ((r.params.zip (args.map η)).foldl (fun tmps (t,a)=>tmps.setIfInBounds t a) r.tmps) r.assign r.body) w:=by
     have hy:=run_yield (P:=P) (args:=args.map η) h1 (by rw [hmap];exact h2)
     simp [execOp,ho,resolve,Deferred.ofValue,hv,invoke,hy]
    rw [hrun,hmap]
    exact⟨rfl,h3⟩
   ·exact hk.elim
  ·cases hc
 ·cases hc
theorem B7H{b:Builtin}{args:Array Operand}{ts:Array TypeId}(ho:o.op= .call {callee:= .builtin b,args,argTypes:=ts})(hc:A3S P d b args.toList ts.toList=some ao)
  (hr:HeapR w O ρ s.n s.h) (he:EvR (A5 w O ρ s.n s.h) s η) (hk:A7 P ao s k):B8 P k w O ρ s.h s.n ((execOp η o).run P w):=by
 obtain⟨args⟩:=args
 obtain⟨ts⟩:=ts
 have hc:A3S P d b args ts=some ao:=hc
 unfold A3S at hc
 split at hc
 ·rename_i x t
  unfold B9F at hc
  split at hc<;>first|(cases hc;done)|(injection hc with hc;subst hc)
  ·rename_i hu hx;exact B5Y ho hu (.inl ⟨rfl,_,rfl⟩) hx hr he hk
  ·rename_i hu hx;exact B5Y ho hu (.inr (.inl ⟨rfl,rfl⟩)) hx hr he hk
  ·rename_i hu hx;exact B5Y ho hu (.inr (.inr ⟨rfl,_,_,rfl⟩)) hx hr he hk
  ·rename_i hu hx;exact C3u ho hu hr hk
 ·rename_i x y t u
  split at hc
  ·unfold B9D at hc
   split at hc
   ·rename_i d' e i x' y' hs hu hx hy
    obtain⟨h1,h2⟩:=F3 hs
    split at hc
    ·rename_i z hz
     split at hc
     ·rename_i zs hzs
      split at hc
      ·rename_i hcond
       injection hc with hc
       subst hc
       obtain⟨hl,hb,hs0⟩:=hcond
       obtain⟨hR,hone⟩:=A7e hzs
       exact C4U ho h1 hu h2 hz hb hs0 hR hone hl hx hy hr he hk
      ·cases hc
     ·cases hc
    ·cases hc
   ·cases hc
  unfold B9x at hc
  split at hc
  ·rename_i d' e i x' y' hs hx hy
   obtain⟨h1,h2⟩:=F3 hs
   split at hc
   ·rename_i z hz
    split at hc
    ·rename_i hcond
     obtain⟨hsrc,hzs,hb⟩:=hcond
     unfold C5A at hsrc
     split at hc
     ·injection hc with hc
      subst hc
      have hk:A7d _ _ _ _ _ _ _ _:=hk
      split at hsrc
      ·rename_i e' hu;exact B2t ho h1 hu (.inl ⟨e',rfl⟩) h2 hz hzs (Nat.div_le_self _ _) (Nat.div_mul_le_self _ _) hx hy hr he hk
      ·rename_i hu;exact B2t ho h1 hu (.inr rfl) h2 hz hzs (Nat.div_le_self _ _) (Nat.div_mul_le_self _ _) hx hy hr he hk
      ·cases hsrc
     ·injection hc with hc
      subst hc
      have hk:A7d _ _ _ _ _ _ _ _:=hk
      have hb':137438953472*i.bytes≤140737488355328:=Nat.le_trans (Nat.mul_le_mul_left _ hb) (by decide)
      split at hsrc
      ·rename_i e' hu;exact B2t ho h1 hu (.inl ⟨e',rfl⟩) h2 hz hzs (by decide) hb' hx hy hr he hk
      ·rename_i hu;exact B2t ho h1 hu (.inr rfl) h2 hz hzs (by decide) hb' hx hy hr he hk
      ·cases hsrc
    ·cases hc
   ·cases hc
  ·cases hc
 ·rename_i x t
  unfold B9z at hc
  split at hc
  ·rename_i e x' hu hx
   injection hc with hc
   subst hc
   exact C3o ho hu hx hr he hk
  ·cases hc
 ·rename_i x y
  split at hc
  ·rename_i x' y' hx hy
   injection hc with hc
   subst hc
   exact C3A (mx:=true) ho hx hy hr he hk
  ·cases hc
 ·rename_i x y
  split at hc
  ·rename_i x' y' hx hy
   injection hc with hc
   subst hc
   exact C3A (mx:=false) ho hx hy hr he hk
  ·cases hc
 ·rename_i m x t r _h
  unfold B9B at hc
  split at hc
  ·rename_i kd e m' x' hkd hm hx
   injection hc with hc
   subst hc
   obtain⟨kt,hu,hk'⟩:=A3U hkd
   exact C3y ho (t:=t) (by simp) hu hk' hm hx hr he hk
  ·cases hc
 ·rename_i x y t u
  unfold B6t at hc
  split at hc
  ·rename_i e i x' y' hs hx hy
   injection hc with hc
   subst hc
   obtain⟨h1,h2⟩:=F3 hs
   exact C3q ho h1 h2 hx hy hr he hk
  ·cases hc
 ·rename_i x t
  unfold B9A at hc
  split at hc
  ·rename_i e i x' hs hx
   obtain⟨h1,h2⟩:=F3 hs
   split at hc
   ·rename_i z hz
    rw [Option.map_eq_some_iff]at hc
    obtain⟨zs,hzs,rfl⟩:=hc
    obtain⟨hR,hone⟩:=A7e hzs
    exact C4P ho h1 h2 hz hR hone hx hr he hk
   ·cases hc
  ·cases hc
 ·cases hc
theorem B6r{op op':BinOp}{t:TypeId}{x y:Operand}{x' y':Opd}(h:A9S P op t x y=some (.bin op' x' y')):op'=op∧B0 x=some x'∧B0 y=some y':=by
 unfold A9S at h
 split at h
 ·rename_i a hi
  injection h with h
  subst h
  unfold B0T at hi
  repeat' (split at hi)
  all_goals simp_all
 split at h
 ·rename_i a hi
  injection h with h
  subst h
  unfold B5g at hi
  repeat' (split at hi)
  all_goals simp_all
 repeat' (split at h)
 all_goals simp_all
theorem C1z{op:BinOp}{t t':TypeId}{x y:Operand}(ho:o.op= .binOp op t x y t')(hc:A9S P op t x y=some ao)
  (hr:HeapR w O ρ s.n s.h) (he:EvR (A5 w O ρ s.n s.h) s η) (hk:A7 P ao s k):B8 P k w O ρ s.h s.n ((execOp η o).run P w):=by
 unfold A9S at hc
 split at hc
 ·rename_i a hi
  injection hc with hc
  subst hc
  unfold B0T at hi
  split at hi
  ·rename_i x' neg hx hneg
   split at hi
   ·rename_i hb
    injection hi with hi
    subst hi
    rw [Bool.and_eq_true]at hb
    have hop:op=if neg then .neq else .eql:=by cases op<;>simp [B4n]at hneg<;>subst hneg<;>rfl
    have hy:=B8y hb.1
    subst hy
    have h2:=hb.2
    unfold B2p at h2
    split at h2
    ·rename_i ms hu
     exact C1D (neg:=neg) (by rw [ho,hop]) hu hx hr he hk (he.2.1 _)
    ·cases h2
   ·cases hi
  ·cases hi
 split at hc
 ·rename_i a hi
  injection hc with hc
  subst hc
  unfold B5g at hi
  split at hi
  ·rename_i x' neg hx hneg
   have hop:op=if neg then .neq else .eql:=by cases op<;>simp [B4n]at hneg<;>subst hneg<;>rfl
   split at hi
   ·rename_i hb
    injection hi with hi
    subst hi
    obtain⟨rfl,e,hu⟩:=B8C hb
    exact C3s (neg:=neg) (by rw [ho,hop]) hu hx hr he hk (he.2.1 _)
   ·split at hi
    ·rename_i hb
     injection hi with hi
     subst hi
     obtain⟨rfl,a,b,c,hu⟩:=B8A hb
     exact C3r (neg:=neg) (by rw [ho,hop]) hu hx hr he hk (he.2.1 _)
    ·cases hi
  ·cases hi
 split at hc
 ·rename_i x' y' hx hy
  split at hc
  ·rename_i l hl
   injection hc with hc
   subst hc
   have hop:op=if l then .shl else .shr:=by cases op<;>simp [D1b]at hl<;>subst hl<;>rfl
   exact C7S (left:=l) (by rw [ho,hop]) hx hy hr he hk
  split at hc
  ·rename_i neg hneg
   have hop:op=if neg then .neq else .eql:=by cases op<;>simp [B4n]at hneg<;>subst hneg<;>rfl
   split at hc
   ·rename_i kd hkd
    injection hc with hc
    subst hc
    unfold C2r at hkd
    split at hkd<;>first|(cases hkd;done)|(injection hkd with hkd;subst hkd)
    ·rename_i e hu;exact B5X (neg:=neg) (by rw [ho,hop]) hu (.inl ⟨rfl,_,rfl⟩) hx hy hr he hk
    ·rename_i e u hu;exact B5X (neg:=neg) (by rw [ho,hop]) hu (.inr (.inl ⟨rfl,_,_,rfl⟩)) hx hy hr he hk
    ·rename_i hu;exact B5X (neg:=neg) (by rw [ho,hop]) hu (.inr (.inr ⟨rfl,rfl⟩)) hx hy hr he hk
   ·split at hc
    ·rename_i hst
     split at hc
     ·rename_i e hsh
      split at hc
      ·rename_i hg
       injection hc with hc
       subst hc
       unfold B6P at hst
       split at hst
       ·rename_i fs hu
        exact C4S (neg:=neg) (by rw [ho,hop]) hu hsh hg hx hy hr he hk
       ·cases hst
      ·cases hc
     ·cases hc
    ·injection hc with hc
     subst hc
     exact B9Z ho hx hy hr he hk
  ·injection hc with hc
   subst hc
   exact B9Z ho hx hy hr he hk
 ·cases hc
theorem B9k{t:TypeId}{len:Nat}{parts:Array (Nat×Operand)}(ho:o.op= .buildSlice t len parts)(hc:S4 P hint d t len parts=some ao)
  (hr:HeapR w O ρ s.n s.h) (he:EvR (A5 w O ρ s.n s.h) s η) (hk:A7 P ao s k):B8 P k w O ρ s.h s.n ((execOp η o).run P w):=by
 unfold S4 at hc
 split at hc
 ·rename_i e i d' hs
  obtain⟨h1,h2⟩:=F3 hs
  split at hc
  ·rename_i z ys hz hys
   split at hc
   ·rename_i zs hzs
    split at hc
    ·rename_i hcond
     obtain⟨c1,c2,c3,c4⟩:=hcond
     injection hc with hc
     subst hc
     obtain⟨hR,hone⟩:=A7e hzs
     have hsz:z.cells.size=i.size:=by
      rw [←c1];exact((hR ⟨default,fun _=>False,fun _=>False,fun _=>default,0⟩).1).symm
     cases hint with
     |true=>exact C1E ho h1 h2 hz hsz hone c2 c3 c4 hys hr he hk
     |false=>exact C1G ho h1 h2 hz hsz hone c2 c3 c4 hys hr he hk
    ·cases hc
   ·cases hc
  ·cases hc
 ·cases hc
theorem C3x{t:TypeId}{l c:Operand}(ho:o.op= .makeSlice t l c)(hc:B2G P d t l c=some ao)
  (hr:HeapR w O ρ s.n s.h) (he:EvR (A5 w O ρ s.n s.h) s η) (hk:A7 P ao s k):B8 P k w O ρ s.h s.n ((execOp η o).run P w):=by
 unfold B2G at hc
 split at hc
 ·rename_i a b d' e i hs
  obtain⟨h1,h2⟩:=F3 hs
  split at hc
  ·rename_i hcond
   obtain⟨rfl,hb⟩:=hcond
   split at hc
   ·rename_i z hz
    split at hc
    ·rename_i zs hzs
     split at hc
     ·rename_i hl
      injection hc with hc
      subst hc
      obtain⟨hR,hone⟩:=A7e hzs
      exact B7J ho rfl h1 h2 hz hb hR hone hl rfl hr he hk
     ·cases hc
    ·cases hc
   ·cases hc
  ·cases hc
 ·rename_i a b d' e i hs
  obtain⟨h1,h2⟩:=F3 hs
  split at hc
  ·rename_i hcond
   obtain⟨rfl,hb⟩:=hcond
   split at hc
   ·rename_i z hz
    split at hc
    ·rename_i zs hzs
     split at hc
     ·rename_i hl
      injection hc with hc
      subst hc
      obtain⟨hR,hone⟩:=A7e hzs
      exact B7J ho rfl h1 h2 hz hb hR hone hl rfl hr he hk
     ·cases hc
    ·cases hc
   ·cases hc
  ·cases hc
 ·cases hc
theorem B6x(hc:B6w P hint d o.op=some ao)
  (hr:HeapR w O ρ s.n s.h) (he:EvR (A5 w O ρ s.n s.h) s η) (hk:A7 P ao s k):B8 P k w O ρ s.h s.n ((execOp η o).run P w):=by
 generalize ho:o.op=op at hc
 cases op<;>simp only [B6w]at hc<;>try (cases hc;done)
 case move x=>
  rw [Option.map_eq_some_iff]at hc
  obtain⟨y,hy,rfl⟩:=hc
  exact B7K (.inl ho) hy hr he hk
 case assign x=>
  rw [Option.map_eq_some_iff]at hc
  obtain⟨y,hy,rfl⟩:=hc
  exact B7K (.inr ho) hy hr he hk
 case pick c a b=>
  split at hc
  ·rename_i c' a' b' h1 h2 h3
   injection hc with hc
   subst hc
   exact C3C ho h1 h2 h3 hr he hk
  ·cases hc
 case nilCheck x=>
  rw [Option.map_eq_some_iff]at hc
  obtain⟨y,hy,rfl⟩:=hc
  exact C1H ho hy hr he hk
 case extract x i=>
  rw [Option.map_eq_some_iff]at hc
  obtain⟨y,hy,rfl⟩:=hc
  exact B7I ho hy hr he hk
 case unOp op t x=>
  rw [Option.map_eq_some_iff]at hc
  obtain⟨y,hy,rfl⟩:=hc
  rcases C1U d op y with e|⟨rfl,e⟩
  ·rw [e]at hk;exact C7T ho hy hr he hk
  ·rw [e]at hk;exact C3B ho hy hr he hk
 case alloc e=>
  unfold B4g at hc
  split at hc
  ·rename_i d' i hi
   split at hc
   ·rename_i z hz
    rw [Option.map_eq_some_iff]at hc
    obtain⟨zv,hzv,rfl⟩:=hc
    exact C1y ho hi hz (C8u hzv) hr hk
   ·cases hc
  ·cases hc
 case box e x=>
  unfold B9y at hc
  split at hc
  ·rename_i d' i x' hi hx
   injection hc with hc
   subst hc
   exact C4N ho hx hr he hk
  ·cases hc
 case build t parts=>
  unfold B4h at hc
  split at hc
  ·rename_i fs i hu hi
   split at hc
   ·rename_i z pl hz hpl
    split at hc
    ·rename_i zs qs hzs hqs
     injection hc with hc
     subst hc
     obtain⟨hR,hone⟩:=A7e hzs
     exact C1A ho hu hpl hi hz hR hone hqs hr he hk
    ·cases hc
   ·cases hc
  ·rename_i len e i hu hi
   split at hc
   ·rename_i z ei hz hei
    split at hc
    ·rename_i zs qs hzs hqs
     injection hc with hc
     subst hc
     obtain⟨hR,hone⟩:=A7e hzs
     exact B9i ho hu hei hi hz hR hone hqs hr he hk
    ·cases hc
   ·cases hc
  ·cases hc
 case buildSlice t len parts=>exact B9k ho hc hr he hk
 case load t x=>
  unfold B6u at hc
  split at hc
  ·rename_i n a x' ht hx
   injection hc with hc
   subst hc
   exact C3v ho ht hx hr he hk
  ·cases hc
 case store t x v=>
  unfold B4l at hc
  split at hc
  ·rename_i i x' v' hi hx hv
   injection hc with hc
   subst hc
   exact C1I ho hi hx hv hr he hk
  ·cases hc
 case binOp op t x y t'=>
  obtain⟨a0,h0,rfl⟩:=Option.map_eq_some_iff.1 hc
  rcases C1T d a0 with e|⟨op',x',y',rfl,e⟩
  ·rw [e]at hk;exact C1z ho h0 hr he hk
  ·rw [e]at hk
   obtain⟨rfl,hx,hy⟩:=B6r h0
   exact C3l ho hx hy hr he hk
 case convert a b x=>
  unfold B6s at hc
  split at hc
  ·rename_i da j x' ha hu hx
   injection hc with hc
   subst hc
   exact C3p ho ha hu hx hr he hk
  ·rename_i e x' ha hu hx
   split at hc
   ·rename_i h8
    injection hc with hc
    subst hc
    exact C4O ho ha (A9f h8) hu hx hr he hk
   ·cases hc
  ·rename_i e x' ha hu hx
   split at hc
   ·split at hc
    ·rename_i h8
     injection hc with hc
     subst hc
     exact C3m ho ha hu (A9f h8) hx hr he hk
    ·cases hc
   ·cases hc
  ·rename_i e e2 x' ha hu hx
   split at hc
   ·rename_i h8
    injection hc with hc
    subst hc
    obtain⟨rfl,h8⟩:=h8
    exact C4Q ho ha (A9f h8) hx hr he hk
   ·cases hc
  ·cases hc
 case range t x=>
  unfold B9G at hc
  split at hc
  ·rename_i kt et d' x' hu hx
   injection hc with hc
   subst hc
   exact C4X ho hu hx hr he hk
  ·cases hc
 case next x b=>
  cases b with
  |true=>cases hc
  |false=>
   obtain⟨x',hx,rfl⟩:=Option.map_eq_some_iff.1 hc
   exact C4W ho hx hr he hk
 case entry x=>
  obtain⟨x',hx,rfl⟩:=Option.map_eq_some_iff.1 hc
  exact C4R ho hx hr he hk
 case fieldAddr t x i=>
  unfold B4i at hc
  split at hc
  ·rename_i fs x' hu hx
   split at hc
   ·rename_i f hf
    split at hc
    ·rename_i ti hti
     split at hc
     ·cases hc
     ·rename_i hz
      injection hc with hc
      subst hc
      exact C1B ho hu hf hti hz hx hr he hk
    ·cases hc
   ·cases hc
  ·cases hc
 case field t x i=>
  unfold B9C at hc
  split at hc
  ·rename_i fs x' hu hx
   split at hc
   ·rename_i f hf
    rw [Option.map_eq_some_iff]at hc
    obtain⟨q,hq,rfl⟩:=hc
    exact C4T ho hu hf hq hx hr he hk
   ·cases hc
  ·cases hc
 case indexAddr t x i=>
  unfold B4j at hc
  split at hc<;>try (cases hc;done)
  ·rename_i e x' i' hu hx hi
   rw [Option.map_eq_some_iff]at hc
   obtain⟨ti,hti,rfl⟩:=hc
   exact C1C ho hu hti hx hi hr he hk
  ·rename_i n e x' i' hu hx hi
   rw [Option.map_eq_some_iff]at hc
   obtain⟨ti,hti,rfl⟩:=hc
   exact B9j ho hu hti hx hi hr he hk
 case index t x i=>
  unfold B9E at hc
  split at hc<;>try (cases hc;done)
  ·rename_i x' i' hu hx hi
   injection hc with hc
   subst hc
   exact C4V ho hu hx hi hr he hk
  ·rename_i n e x' i' hu hx hi
   split at hc
   ·rename_i ti q hti hq
    injection hc with hc
    subst hc
    exact C3t ho hu hti hq hx hi hr he hk
   ·cases hc
 case makeSlice t l c=>exact C3x ho hc hr he hk
 case slice t x lo hi mx=>
  unfold C2i at hc
  cases mx with
  | some m=>
   simp only at hc
   split at hc
   ·rename_i j j' hh hm
    have hm:=B3P hm
    subst hm
    cases hi with
    |none=>cases hh
    | some h=>
     have hh:=B3P (show B3O h=some j from hh)
     subst hh
     unfold B9I at hc
     split at hc
     ·rename_i d' e i x' hs hx
      injection hc with hc
      subst hc
      obtain⟨h1,h2⟩:=F3 hs
      exact C5a ho rfl h1 h2 hx hr he hk
     ·cases hc
   ·cases hc
  | none=>
   simp only at hc
   unfold B9H at hc
   split at hc<;>try (cases hc;done)
   ·rename_i e x' lo' hi' hu hx hlo hhi
    rw [Option.map_eq_some_iff]at hc
    obtain⟨ti,hti,rfl⟩:=hc
    exact C4Y ho hu hti hx hlo hhi hr he hk
   ·rename_i x' lo' hi' hu hx hlo hhi
    injection hc with hc
    subst hc
    exact C4Z ho hu hx hlo hhi hr he hk
 case makeMap t r=>
  unfold B4k at hc
  split at hc
  ·injection hc with hc
   subst hc
   exact B4T ho (.inl rfl) hr he hk
  ·split at hc
   ·rename_i a b hu
    injection hc with hc
    subst hc
    exact B4T ho (.inr ⟨⟨_,_,rfl⟩,_,_,hu⟩) hr he hk
   ·cases hc
  ·cases hc
 case lookup t m x ok=>
  unfold B6v at hc
  split at hc
  ·rename_i kd e m' x' hkd hm hx
   obtain⟨kt,hu,hk'⟩:=A3U hkd
   split at hc
   ·rename_i i hi
    split at hc
    ·rename_i z hz
     rw [Option.map_eq_some_iff]at hc
     obtain⟨zv,hzv,rfl⟩:=hc
     exact C3w ho hu hk' hi hz (C8u hzv) hm hx hr he hk
    ·cases hc
   ·cases hc
  ·cases hc
 case mapUpdate t m x v=>
  unfold B2H at hc
  split at hc
  ·rename_i kd e m' x' v' hkd hm hx hv
   injection hc with hc
   subst hc
   obtain⟨kt,hu,hk'⟩:=A3U hkd
   exact B7L (.inl ho) hu hk' hm hx hv hr he hk
  ·cases hc
 case insert t m x v=>
  unfold B2H at hc
  split at hc
  ·rename_i kd e m' x' v' hkd hm hx hv
   injection hc with hc
   subst hc
   obtain⟨kt,hu,hk'⟩:=A3U hkd
   exact B7L (.inr ho) hu hk' hm hx hv hr he hk
  ·cases hc
 case makeFunc fn first xs=>
  cases fn<;>try (cases hc;done)
  rename_i f
  simp only at hc
  split at hc
  ·rename_i h0
   rw [Option.map_eq_some_iff]at hc
   obtain⟨ys,hys,rfl⟩:=hc
   have:first= #[]:=Array.eq_empty_of_size_eq_zero h0
   subst this
   exact C3z ho hys hr he hk
  ·cases hc
 case call c=>
  obtain⟨callee,args,ts⟩:=c
  simp only at hc
  cases callee with
  |value f=>exact C3n ho hc hr he hk
  |invoke r m=>cases hc
  |builtin b=>exact B7H ho hc hr he hk
end
end Go.Abs
namespace Go.Abs
def B5b(P:Program)(d:Deferred):Prop:= ∃fv cap f args,d.target= .fn fv cap∧(∀w,(invoke d.target d.args).run P w= .ok (.enter f args) w)∧
 ∀w,CallsD P f args .returning w fun e u' w'=>(∃v,e= .returned v)∧u'= .returning∧w'=w
def B1A(o:Oper)(d:Nat):Bool:=
 match o.dst,o.guard with
 |some i,none=>Nat.beq i d
 |_,_=>false
theorem A4y{o:Oper}{d:Nat}(h:B1A o d=true):o.dst=some d∧o.guard=none:=by
 unfold B1A at h
 split at h
 ·rename_i i h1 h2;rw [h1,h2,Nat.eq_of_beq_eq_true h];exact⟨rfl,rfl⟩
 ·cases h
def C5i(P:Program)(N:Nat)(o0 o1 o2 o3:Oper)(c:Nat):Bool:=
 match o0.op,o1.op,o2.op,o3.op with
 | .call q,.assign (.tmp a),.move (.tmp b),.binOp .neq t (.tmp e) (.const .nilIface) _=>
  (match q.callee with| .builtin .recover=>true|_=>false)&&(B1A o0 a&&(B1A o1 b&&(B1A o2 e&&(B1A o3 c&&(Nat.blt a N&&(Nat.blt b N&&(Nat.blt e N&&(Nat.blt c N&&B2p P t))))))))
 |_,_,_,_=>false
def B5B(P:Program)(f:FuncId):Bool:=
 match P.funcs[f]? with
 | some fn=>match fn.body with
  |some (.seq (.region _ ops0 false) (.seq (.region _ ops1 false) (.cond (.tmp c) _ .skip)))=>match ops0.toList,ops1.toList with
   | [o0,o1],[o2,o3]=>J8 P f&&(fn.results.isEmpty&&C5i P fn.ntmps o0 o1 o2 o3 c)
   |_,_=>false
  |_=>false
 |none=>false
theorem A2O{o:Oper}{f:Nat→Option Bool}(h:o.guard=none):Region.wanted o f=true:=by simp [Region.wanted,h]
theorem A7j{a:Act}{d:Nat}{v:Value}(h:d<a.tmps.size):(a.put (some d) v).eval (.tmp d)=v:=by
 simp [Act.put,Act.eval,Array.getD,h]
theorem B0E{a:Act}{d:Nat}{v:Value}:(a.put (some d) v).tmps.size=a.tmps.size:=by simp [Act.put]
theorem B3p{P:Program}{ops:Array Oper}{Q:Exit→Act→List Frame→World→Prop}{i:Nat}{rest:List Nat}{a:Act}{cs:List Frame}{w:World}{o:Oper}{v:Value}(ho:ops[i]? =some o)(hg:o.guard=none)(hr:(execOp a.eval o).run P w= .ok (.value v) w)
  (h:wpOpsS P ops Q rest (a.put o.dst v) cs w):wpOpsS P ops Q (i::rest) a cs w:=by
 simp only [wpOpsS,ho,A2O hg,if_true,hr]
 exact h
theorem C2W{P:Program}{ops:Array Oper}{Q:Exit→Act→List Frame→World→Prop}{i:Nat}{rest:List Nat}{a:Act}{cs:List Frame}{w:World}{o:Oper}(ho:ops[i]? =some o)(hg:o.guard=none)(hr:(execOp a.eval o).run P w= .ok .recover w)(hn:recoverD cs=none)
  (h:wpOpsS P ops Q rest (a.put o.dst .nilIface) cs w):wpOpsS P ops Q (i::rest) a cs w:=by
 simp only [wpOpsS,ho,A2O hg,if_true,hr,hn]
 exact h
theorem C3a{P:Program}{f:FuncId}(h:B5B P f=true)(args:Array Value)(w:World):CallsD P f args .returning w fun e u' w'=>(∃v,e= .returned v)∧u'= .returning∧w'=w:=by
 unfold B5B at h
 split at h
 ·rename_i fn hf
  split at h
  ·rename_i i0 ops0 i1 ops1 c x hb
   split at h
   ·rename_i o0 o1 o2 o3 h0 h1
    rw [Bool.and_eq_true,Bool.and_eq_true]at h
    obtain⟨_,hres,h⟩:=h
    have e0:ops0= #[o0,o1]:=Array.ext' h0
    have e1:ops1= #[o2,o3]:=Array.ext' h1
    subst e0;subst e1
    unfold C5i at h
    split at h
    ·rename_i q a b t e u p0 p1 p2 p3
     simp only [Bool.and_eq_true]at h
     obtain⟨hq,d0,d1,d2,d3,n0,n1,n2,n3,ht⟩:=h
     obtain⟨d0,g0⟩:=A4y d0
     obtain⟨d1,g1⟩:=A4y d1
     obtain⟨d2,g2⟩:=A4y d2
     obtain⟨d3,g3⟩:=A4y d3
     have n0:=Nat.le_of_ble_eq_true n0
     have n1:=Nat.le_of_ble_eq_true n1
     have n2:=Nat.le_of_ble_eq_true n2
     have n3:=Nat.le_of_ble_eq_true n3
     refine callsD_of_wpS hf hb fun c₀ cs hu=> ?_
     generalize ha:({tmps:=args++Array.replicate (fn.ntmps-args.size) undef,defers:= []}:Act)=A
     have hsz:fn.ntmps≤A.tmps.size:=by rw [←ha];simp;omega
     have hdf:A.defers= []:=by rw [←ha]
     have hrec:recoverD (c₀::cs)=none:=by simp [recoverD,hu]
     have hcal:q.callee= .builtin .recover:=by
      revert hq
      cases hcc:q.callee with
      |builtin b=>cases b<;>simp
      |value f=>simp
      |invoke r m=>simp
     obtain⟨qc,qa,qt⟩:=q
     subst hcal
     have r0: ∀η:Operand→Value,(execOp η o0).run P w= .ok .recover w:=fun η=>by simp [execOp,p0,resolve,invoke,builtin]
     have r1: ∀η:Operand→Value,(execOp η o1).run P w= .ok (.value (η (.tmp a))) w:=fun η=>by simp [execOp,p1]
     have r2: ∀η:Operand→Value,(execOp η o2).run P w= .ok (.value (η (.tmp b))) w:=fun η=>by simp [execOp,p2]
     have r3: ∀η:Operand→Value,η (.tmp e)= .nilIface→η (.const .nilIface)= .nilIface→(execOp η o3).run P w= .ok (.value (.bool false)) w:=fun η h1 h2=>by
      unfold B2p at ht
      split at ht
      ·rename_i ms hm
       have:=B0B (P:=P) (w:=w) hm
       simp [execOp,p3,h1,h2,eqGuard,binOp,this]
      ·cases ht
     refine wpS_seq (wpS_region ?_)
     refine C2W (o:=o0) rfl g0 (r0 _) hrec (B3p (o:=o1) rfl g1 (r1 _) ?_)
     rw [d0,d1,A7j (by omega)]
     generalize hA1:(A.put (some a) Value.nilIface).put (some b) Value.nilIface=A1
     have hs1:fn.ntmps≤A1.tmps.size:=by rw [←hA1,B0E,B0E];exact hsz
     have hd1:A1.defers= []:=by rw [←hA1];exact hdf
     have hb1:A1.eval (.tmp b)= .nilIface:=by rw [←hA1];exact A7j (by rw [B0E];omega)
     show (Code.seq _ _).wpS P _ A1 (c₀::cs) w
     refine wpS_seq (wpS_region ?_)
     refine B3p (o:=o2) rfl g2 (r2 _) ?_
     rw [d2,hb1]
     refine B3p (o:=o3) rfl g3 (r3 _ (A7j (by omega)) rfl) ?_
     rw [d3]
     show (Code.cond _ _ _).wpS P _ _ (c₀::cs) w
     refine wpS_cond (t:=false) (A7j (by rw [B0E];omega)) ?_
     refine wpS_of_wp (wp_skip ?_)
     refine⟨hd1,.returning,by rw [←hu],?_⟩
     have hr0:fn.results= #[]:=by simpa using hres
     exact⟨.tuple #[],by simp [results,hr0],⟨_,rfl⟩,rfl,rfl⟩
    ·cases h
   ·cases h
  ·cases h
 ·cases h
def A6c(P:Program)(bs:Nat)(E:Env)(ds:List Deferred):Prop:=
 ds.Pairwise (fun d d'=>d=d'→B5b P d)∧ ∀d∈ds,B5b P d∨ ∃r,d={target:= .collected r,args:= #[]}∧bs≤r∧ ¬E.own r∧E.w.heap[r]? =some (.deferred (some []))
theorem A6c.nil{P:Program}{bs:Nat}{E:Env}:A6c P bs E []:=⟨List.Pairwise.nil,fun d hd=>by cases hd⟩
theorem A6c.mono{P:Program}{bs:Nat}{E E':Env}{ds:List Deferred}(hx:Ext E E')(h:A6c P bs E ds):A6c P bs E' ds:=by
 refine⟨h.1,fun d hd=> ?_⟩
 rcases h.2 d hd with hq|⟨r,h1,h2,h3,h4⟩
 ·exact .inl hq
 obtain⟨q1,q2⟩:=hx.blk r (Array.getElem?_eq_some_iff.1 h4).1 h3
 exact .inr ⟨r,h1,h2,q2,q1.trans h4⟩
theorem A6c.push{P:Program}{bs:Nat}{E:Env}{ds:List Deferred}{d:Deferred}(h:A6c P bs E ds)(hq:B5b P d):A6c P bs E (d::ds):=
 ⟨List.pairwise_cons.2 ⟨fun _ _ _=>hq,h.1⟩,fun x hx=>(List.mem_cons.1 hx).elim (fun e=> .inl (e ▸ hq)) (h.2 x)⟩
structure Sim(P:Program)(bs N:Nat)(E:Env)(sl:List (Nat×V))(a:Act):Prop where
 size:a.tmps.size=N
 base:bs≤E.w.heap.size
 defers:A6c P bs E a.defers
 slot: ∀i,R E (C3 sl i) (a.tmps.getD i Go.undef)
theorem F0(sl:List (Nat×V))(i:Nat)(v:V)(j:Nat):C3 (E8 sl i v) j=if i=j then v else C3 sl j:=by
 induction sl with
 | nil=>
  simp only [E8,C3]
  by_cases h:i=j
  ·subst h;simp
  ·rw [if_neg h]
   have:Nat.beq i j=false:=by cases hb:Nat.beq i j with
    |false=>rfl
    |true=>exact(h (Nat.eq_of_beq_eq_true hb)).elim
   rw [this];rfl
 | cons p r ih=>
  simp only [E8]
  cases hb:Nat.beq p.1 i with
  | true=>
   have hp:=Nat.eq_of_beq_eq_true hb
   simp only [cond_true,C3]
   by_cases h:i=j
   ·subst h;simp
   ·rw [if_neg h]
    have h1:Nat.beq i j=false:=by cases hb':Nat.beq i j with
     |false=>rfl
     |true=>exact(h (Nat.eq_of_beq_eq_true hb')).elim
    rw [h1,hp,h1];rfl
  | false=>
   rw [cond_false]
   cases hlt:Nat.blt p.1 i with
   | true=>
    rw [cond_true]
    simp only [C3]
    by_cases h:i=j
    ·subst h;simp
    ·rw [if_neg h]
     have h1:Nat.beq i j=false:=by cases hb':Nat.beq i j with
      |false=>rfl
      |true=>exact(h (Nat.eq_of_beq_eq_true hb')).elim
     rw [h1];rfl
   |false=>
   simp only [cond_false,C3,ih]
   cases hb':Nat.beq p.1 j with
   |true=>
    have hp:=Nat.eq_of_beq_eq_true hb'
    have:i≠j:=fun e=>by rw [←hp]at e;rw [e,Nat.beq_refl]at hb;cases hb
    simp [this]
   |false=>rfl
theorem Sim.evr{P:Program}{bs N:Nat}{E:Env}{s:St}{a:Act}(h:Sim P bs N E s.sl a)(hg:GlR E):EvR E s a.eval:=⟨h.slot,fun _=>rfl,fun _=>rfl,fun _=>rfl,hg⟩
theorem Sim.mono{P:Program}{bs N:Nat}{E E':Env}{sl:List (Nat×V)}{a:Act}(h:Sim P bs N E sl a)(hx:Ext E E'):Sim P bs N E' sl a:=⟨h.size,Nat.le_trans h.base hx.size,h.defers.mono hx,fun i=>(h.slot i).mono hx⟩
theorem Sim.set{P:Program}{bs N:Nat}{E:Env}{sl:List (Nat×V)}{a:Act}(h:Sim P bs N E sl a){d:Nat}{v:V}{x:Value}(hd:d<N)(hR:R E v x):Sim P bs N E (E8 sl d v) (a.put (some d) x):=by
 refine⟨by simp [Act.put,h.size],h.base,h.defers,fun i=> ?_⟩
 rw [F0]
 have hs:=h.size
 by_cases hi:d=i
 ·subst hi
  rw [if_pos rfl]
  have:(a.put (some d) x).tmps.getD d Go.undef=x:=by simp [Act.put,Array.getD,hs,hd]
  rw [this];exact hR
 ·rw [if_neg hi]
  have:(a.put (some d) x).tmps.getD i Go.undef=a.tmps.getD i Go.undef:=by
   simp only [Act.put,Array.getD_eq_getD_getElem?,Array.getElem?_setIfInBounds]
   rw [if_neg hi]
  rw [this];exact h.slot i
theorem Sim.know{P:Program}{bs N:Nat}{E:Env}{sl:List (Nat×V)}{a:Act}(h:Sim P bs N E sl a){d:Nat}{b:Bool}(hd:C3 sl d= .bool b):Sim P bs N E (E8 sl d (.bool b)) a:=by
 refine⟨h.size,h.base,h.defers,fun i=> ?_⟩
 rw [F0]
 by_cases hi:d=i
 ·subst hi;rw [if_pos rfl,←hd];exact h.slot d
 ·rw [if_neg hi];exact h.slot i
def B9L(N:Nat):Option Nat→Bool
 |none=>true
 |some d=>Nat.blt d N
def C5n(ops:Array Oper):Option (Nat×Bool)→Option (Option (Nat×Bool))
 |none=>some none
 |some (j,want)=>match (ops[j]?).bind (·.dst)with
  |some d=>some (some (d,want))
  |none=>none
def C2E(d:Option Nat):Operand→Bool
 | .tmp i=>d==some i
 |_=>false
def C8q:Operand→Bool
 | .func g=>C7I.any (Nat.beq g)
 |_=>false
def C6V(ops:Array Oper)(d:Option Nat):Bool:=ops.toList.any fun o=>match o.op with
 | .call {callee:= .builtin .append,args,.. }=>(args.toList.drop 1).any (C2E d)
 | .call {callee:= .value f,args,.. }=> !(Nat.beq args.size 1)&& !(C8q f)&&args.toList.any (C2E d)
 |_=>false
def B7m(o:Oper):Bool:=match o.op with
 | .call {callee:= .value (.func g),.. }=>C5M.any (Nat.beq g)
 |_=>false
def C4k(ops:Array Oper)(o:Oper):Bool:=bif B7m o then Nat.ble 3 (ops.toList.countP B7m)else C6V ops o.dst
def D0J(ops:Array Oper)(d:Option Nat):Bool:=ops.toList.any fun o=>match o.op with
 | .convert a b x=>Nat.beq a b&&C2E d x
 |_=>false
def B2o(P:Program)(d:Option Nat)(op:Op):Option AO:=
 match op with
 | .buildSlice t len parts=>match S4 P false d t len parts with
  |some (.mkrow nm 1 ys)=>some (.mkraw nm ys)
  |_=>none
 |_=>none
def B6p(P:Program)(raw hint:Bool)(d:Option Nat)(op:Op):Option AO:=
 match bif raw then B2o P d op else none with
 |some a=>some a
 |none=>B6w P hint d op
def B6q(P:Program)(B N:Nat)(ops:Array Oper)(o:Oper):Option AI:=
 match C5n ops o.guard with
 |some g=>bif B9L N o.dst then some ⟨o.dst,g,(B6p P (D0J ops o.dst) (C4k ops o) (o.dst.map fun d=>B+d) o.op).getD .bad⟩else none
 |none=>none
theorem C0s{P:Program}{k:Res}{w:World}{O:Nat→Prop}{ρ:Nat→Loc}{s:St}{η:Operand→Value}{o:Oper}{hint:Bool}{d:Option Nat}(hr:HeapR w O ρ s.n s.h)(he:EvR (A5 w O ρ s.n s.h) s η)
  (hk:A7 P ((B6w P hint d o.op).getD .bad) s k):B8 P k w O ρ s.h s.n ((execOp η o).run P w):=by
 cases hc:B6w P hint d o.op with
 |none=>rw [hc]at hk;exact hk.elim
 |some ao=>rw [hc]at hk;exact B6x hc hr he hk
theorem B3R{P:Program}{k:Res}{w:World}{O:Nat→Prop}{ρ:Nat→Loc}{s:St}{η:Operand→Value}{o:Oper}{d:Option Nat}{ao:AO}(hc:B2o P d o.op=some ao)(hr:HeapR w O ρ s.n s.h)(he:EvR (A5 w O ρ s.n s.h) s η)
  (hk:A7 P ao s k):B8 P k w O ρ s.h s.n ((execOp η o).run P w):=by
 unfold B2o at hc
 split at hc
 ·rename_i t len parts ho
  split at hc
  ·rename_i nm ys hb
   injection hc with hc
   subst hc
   unfold S4 at hb
   split at hb
   ·rename_i e i d' hs
    obtain⟨h1,h2⟩:=F3 hs
    split at hb
    ·rename_i z ys' hz hys
     split at hb
     ·rename_i zs hzs
      split at hb
      ·rename_i hcond
       obtain⟨c1,c2,c3,c4⟩:=hcond
       injection hb with hb
       simp only [Bool.false_eq_true,if_false]at hb
       injection hb with e1 e2 e3
       subst e1;subst e3
       obtain⟨hR,hone⟩:=A7e hzs
       have hsz:z.cells.size=i.size:=by
        rw [←c1];exact((hR ⟨default,fun _=>False,fun _=>False,fun _=>default,0⟩).1).symm
       exact C1F ho h1 h2 hz hsz hone c2 c3 c4 hys e2 hr he hk
      ·cases hb
     ·cases hb
    ·cases hb
   ·cases hb
  ·cases hc
 ·cases hc
theorem B4f{P:Program}{k:Res}{w:World}{O:Nat→Prop}{ρ:Nat→Loc}{s:St}{η:Operand→Value}{o:Oper}{raw hint:Bool}{d:Option Nat}(hr:HeapR w O ρ s.n s.h)(he:EvR (A5 w O ρ s.n s.h) s η)
  (hk:A7 P ((B6p P raw hint d o.op).getD .bad) s k):B8 P k w O ρ s.h s.n ((execOp η o).run P w):=by
 unfold B6p at hk
 split at hk
 ·rename_i a ha
  cases raw with
  |true=>exact B3R ha hr he hk
  |false=>cases ha
 ·exact C0s hr he hk
def A4k(P:Program):List AI→St→(St→Prop)→Prop
 | [],s,K=>K s
 |i::r,s,K=>D5 P i s fun s'=>A4k P r s' K
def frB(n:Nat):V→Prop
 | .ptr _ st _ _=>st<n
 | .sl _ st _ m=>m≠0→st<n
 | .mp _ st=>st<n
 |_=>True
theorem frB.mono{n n':Nat}(h:n≤n'): ∀{v:V},frB n v→frB n' v:=fun{v} hv=>by
 cases v<;>first|exact trivial|exact Nat.lt_of_lt_of_le hv h|exact fun hm=>Nat.lt_of_lt_of_le (hv hm) h
theorem R.fr{E:Env}{v:V}{c:Value}(h:R E v c):frB E.n v:=by
 cases h<;>first|exact trivial|assumption|exact fun _=>by assumption|exact fun h=>absurd rfl h
def D0a(s:St):Prop:= ∀i,frB s.n (C3 s.sl i)
def VF(P:Program):List AI→St→(St→Prop)→Prop
 | [],s,K=>K s
 |i::r,s,K=>D0a s→D5 P i s fun s'=>VF P r s' K
section
variable {P:Program} {bs B N:Nat} {O:Nat→Prop} {ops:Array Oper} {Q:Exit→Act→World→Prop} {ro:Option Nat}
def Fr(ro:Option Nat):Fence:={Fence.wide with round:=ro}
theorem B8d{n:Nat}{f:FuncId}{args:Array Value}{w:World}{R:Ending→World→Prop}(h:Calls P f args w R):CallsIn (Fr ro) n P f args w R:=
 have h':CallsIn Fence.wide n P f args w R:=callsIn_wide.2 h
 h'
theorem B9a{n:Nat}{l:Nat}{f:FuncId}{tmps:Array Value}{x y:Code}{w:World}{R:Ending→World→Prop}(h:RoundIn Fence.wide n P l f tmps x y w R):RoundIn (Fr ro) n P l f tmps x y w R:=h
theorem A8z{o:Oper}{k:Res}{s:St}{raw hint:Bool}{d:Option Nat}(hk:A7 P ((B6p P raw hint d o.op).getD .bad) s k): ∀c,o.op≠ .defer c:=by
 intro c hc
 rw [hc]at hk
 unfold B6p B2o at hk
 cases raw<;>exact hk
theorem A4A{o:Oper}{a a':Act}{w w':World}{ρ ρ':Nat→Loc}{s:St}{sl:List (Nat×V)}{K:St→Prop}{next:Act→World→Prop}{v:Value}{r:V}{h':A0}{n':Nat}(hd:B9L N o.dst=true)(hs:Sim P bs N (A5 w O ρ s.n s.h) sl a)
  (hnext: ∀ρ' (s':St) a' w',HeapR w' O ρ' s'.n s'.h→Sim P bs N (A5 w' O ρ' s'.n s'.h) s'.sl a'→Ext (A5 w O ρ s.n s.h) (A5 w' O ρ' s'.n s'.h)→K s'→next a' w')
  (hk:fin o.dst sl K r h' n') (hr:HeapR w' O ρ' n' h') (hR:R (A5 w' O ρ' n' h') r v) (hx:Ext (A5 w O ρ s.n s.h) (A5 w' O ρ' n' h')) (ha:a'=a.put o.dst v):next a' w':=by
 subst ha
 have hs':=hs.mono hx
 unfold fin at hk
 cases hdst:o.dst with
 |none=>
  rw [hdst]at hk
  exact hnext ρ' ⟨sl,h',n'⟩ _ w' hr hs' hx hk
 |some d=>
  rw [hdst]at hk hd
  exact hnext ρ' ⟨E8 sl d r,h',n'⟩ _ w' hr (hs'.set (Nat.le_of_ble_eq_true hd) hR) hx hk
theorem B9K{o:Oper}{a:Act}{w:World}{ρ:Nat→Loc}{s:St}{sl:List (Nat×V)}{K:St→Prop}{next:Act→World→Prop}(hnd: ∀c,o.op≠ .defer c)(hd:B9L N o.dst=true)(hr:HeapR w O ρ s.n s.h)(hs:Sim P bs N (A5 w O ρ s.n s.h) sl a)
  (hnext: ∀ρ' (s':St) a' w',HeapR w' O ρ' s'.n s'.h→Sim P bs N (A5 w' O ρ' s'.n s'.h) s'.sl a'→Ext (A5 w O ρ s.n s.h) (A5 w' O ρ' s'.n s'.h)→K s'→next a' w')
  (h:B8 P (fin o.dst sl K) w O ρ s.h s.n ((execOp a.eval o).run P w)):o.wpIn (Fr ro) 0 P a w next Q:=by
 refine⟨fun _ _=>trivial,?_⟩
 rw [Oper.semAt_eq _ _ _ hnd]
 generalize (execOp a.eval o).run P w=res at h
 unfold B8 at h
 split at h
 ·obtain⟨r,h',n',ρ',hk,hr',hR,hx⟩:=h
  exact A4A hd hs hnext hk hr' hR hx rfl
 ·obtain⟨r,h',n',ρ',hk,hr',hR,hx⟩:=h
  exact A4A hd hs hnext hk hr' hR hx rfl
 ·obtain⟨rfl,as,hRL,hcall⟩:=h
  refine⟨fun h=>by simp [Fr,Fence.wide]at h,B8d ((hcall _ O ρ _ hr hRL).mono ?_)⟩
  rintro e w' ⟨v,r,h',n',ρ',rfl,hk,hr',hR,hx⟩
  exact A4A hd hs hnext hk hr' hR hx rfl
 ·obtain⟨rfl,h⟩:=h
  refine⟨fun h=>by simp [Fr,Fence.wide]at h,B9a (h.mono ?_)⟩
  rintro e w' ⟨v,r,h',n',ρ',rfl,hk,hr',hR,hx⟩
  exact A4A hd hs hnext hk hr' hR hx rfl
 ·exact h.elim
theorem B7Q{o:Oper}{i:AI}{a:Act}{w:World}{ρ:Nat→Loc}{s:St}{K:St→Prop}{next:Act→World→Prop}(hc:B6q P B N ops o=some i)(hr:HeapR w O ρ s.n s.h)(hs:Sim P bs N (A5 w O ρ s.n s.h) s.sl a)
  (hk:D5 P i s K)
  (hnext: ∀ρ' (s':St) a' w',HeapR w' O ρ' s'.n s'.h→Sim P bs N (A5 w' O ρ' s'.n s'.h) s'.sl a'→Ext (A5 w O ρ s.n s.h) (A5 w' O ρ' s'.n s'.h)→K s'→next a' w'):
  if Region.wanted o (yielded ops a.tmps)then o.wpIn (Fr ro) 0 P a w next Q else next (a.put o.dst Go.undef) w:=by
 unfold B6q at hc
 split at hc
 ·rename_i g hg
  cases hd:B9L N o.dst with
  |false=>rw [hd]at hc;cases hc
  | true=>
   rw [hd,cond_true]at hc
   injection hc with hc
   subst hc
   unfold C5n at hg
   cases hgd:o.guard with
   |none=>
    rw [hgd]at hg
    injection hg with hg
    subst hg
    simp only [D5]at hk
    have hw:Region.wanted o (yielded ops a.tmps)=true:=by simp [Region.wanted,hgd]
    rw [hw,if_pos rfl]
    exact B9K (A8z hk) hd hr hs hnext (B4f hr (hs.evr hr.gl) hk)
   | some q=>
    obtain⟨j,want⟩:=q
    rw [hgd]at hg
    simp only at hg
    split at hg
    ·rename_i dj hdj
     injection hg with hg
     subst hg
     simp only [D5,stepG]at hk
     split at hk
     ·rename_i b hb
      have hslot:=hs.slot dj
      rw [hb]at hslot
      have hv:=hslot.bool_inv
      have hlt:dj<a.tmps.size:=by
       rcases Nat.lt_or_ge dj a.tmps.size with h|h
       ·exact h
       ·rw [Array.getD_eq_getD_getElem?,Array.getElem?_eq_none h]at hv;cases hv
      have hget:a.tmps[dj]? =some (.bool b):=by
       rw [Array.getD_eq_getD_getElem?]at hv
       simp only [Array.getElem?_eq_getElem hlt]at hv⊢
       simpa using hv
      have hy:yielded ops a.tmps j=some b:=by simp [yielded,hdj,hget]
      have hw:Region.wanted o (yielded ops a.tmps)=(b==want):=by simp [Region.wanted,hgd,hy]
      rw [hw]
      by_cases hbw:b=want
      ·subst hbw
       rw [if_pos (by simp)]
       have hs1:=hs.know hb
       exact B9K (s:=⟨E8 s.sl dj (.bool b),s.h,s.n⟩) (A8z (hk.1 rfl)) hd hr hs1 hnext (B4f (s:=⟨E8 s.sl dj (.bool b),s.h,s.n⟩) hr (Sim.evr (s:=⟨E8 s.sl dj (.bool b),s.h,s.n⟩) hs1 hr.gl) (hk.1 rfl))
      ·rw [if_neg (by simpa using hbw)]
       have hbw':b= !want:=by cases b<;>cases want<;>simp_all
       have hs1:=hs.know hb
       have hk2:=hk.2 hbw'
       rw [←hbw']at hk2
       exact A4A hd hs1 hnext hk2 hr (.cst _) (Ext.refl _) rfl
     ·rename_i u hu
      obtain⟨hnb,hk2⟩:=hk
      have hslot:=hs.slot dj
      rw [hu]at hslot
      have hv:a.tmps.getD dj Go.undef=u:=hslot.cst_inv
      have hy:yielded ops a.tmps j=none:=by
       simp only [yielded,hdj]
       rw [Array.getD_eq_getD_getElem?]at hv
       cases hq:a.tmps[dj]? with
       |none=>simp [hq]
       |some x=>
        rw [hq]at hv
        simp only [Option.getD_some]at hv
        subst hv
        cases x<;>first|(cases hnb;done)|simp [hq]
      have hw:Region.wanted o (yielded ops a.tmps)=false:=by simp [Region.wanted,hgd,hy]
      rw [hw,if_neg (by simp)]
      exact A4A hd hs hnext hk2 hr (.cst _) (Ext.refl _) rfl
     ·exact hk.elim
    ·cases hg
 ·cases hc
theorem B1j: ∀(l:List Nat) (is:List AI) (a:Act) (w:World) (ρ:Nat→Loc) (s:St) (K:St→Prop),is.length=l.length→(∀(q:Nat) j,l[q]? =some j→ ∃o i,ops[j]? =some o∧is[q]? =some i∧B6q P B N ops o=some i)→
  HeapR w O ρ s.n s.h→Sim P bs N (A5 w O ρ s.n s.h) s.sl a→VF P is s K→
  (∀ρ' (s':St) a' w',HeapR w' O ρ' s'.n s'.h→Sim P bs N (A5 w' O ρ' s'.n s'.h) s'.sl a'→Ext (A5 w O ρ s.n s.h) (A5 w' O ρ' s'.n s'.h)→K s'→Q .normal a' w')→wpOpsIn (Fr ro) 0 P ops Q l a w
 | [],is,a,w,ρ,s,K,hl,_,hr,hs,hk,hq=>by
  have:is= []:=List.eq_nil_of_length_eq_zero (by simpa using hl)
  subst this
  exact hq ρ s a w hr hs (Ext.refl _) hk
 | j::l,is,a,w,ρ,s,K,hl,hc,hr,hs,hk,hq=>by
  obtain⟨o,i,ho,hi,hcomp⟩:=hc 0 j rfl
  cases is with
  |nil=>cases hi
  | cons i' is=>
   simp at hi
   subst hi
   simp only [wpOpsIn,ho]
   have step:=B7Q (Q:=Q) (ro:=ro) (next:=wpOpsIn (Fr ro) 0 P ops Q l) hcomp hr hs (hk fun i=>(hs.slot i).fr) fun ρ' s' a' w' hr' hs' hx' hk'=>
    B1j l is a' w' ρ' s' K (by simpa using hl) (fun q j' hj=>hc (q+1) j' (by simpa using hj)) hr' hs' hk' fun ρ2 s2 a2 w2 hr2 hs2 hx2 hk2=>hq ρ2 s2 a2 w2 hr2 hs2 (hx'.trans hx2) hk2
   split at step
   ·rename_i hw;rw [if_pos hw];exact step
   ·rename_i hw;rw [if_neg hw];exact⟨fun _ _=>trivial,step⟩
end
end Go.Abs
namespace Go.Abs
def T9:Opd→List Nat
 | .t i=> [i]
 |_=> []
def B9o:Option Opd→List Nat
 |some x=>T9 x
 |none=> []
def A3y:AO→List Nat
 | .mov x| .nilck x| .box _ _ x| .load _ _ x| .faddr _ x| .fld _ _ _ x| .ext _ x| .un _ x| .negw x| .conv _ x| .cap0 x| .rgm _ x| .nxm x| .ent x| .bst x| .cvr x| .byts _ x| .isnil _ x| .eqn _ _ x| .len _ x| .mksl _ _ x| .clr _ x| .slz _ _ x=>T9 x
 | .pick c a b=>T9 c++T9 a++T9 b
 | .build _ ps=>ps.flatMap fun p=>T9 p.2.2
 | .mkrow _ _ xs| .mkisl _ xs| .mkraw _ xs| .mm _ xs| .mkfn _ xs| .call _ xs| .pcall _ xs=>xs.flatMap T9
 | .store _ x v| .iaddr _ x v| .iaddrA _ _ x v| .idx x v| .bin _ x v| .binw _ x v| .eqp _ _ x v| .eqa _ _ x v| .app _ _ x v| .apb _ _ _ x v| .copy _ x v| .look _ _ _ x v| .mdel _ x v| .sh _ x v| .grw _ _ x v| .idxA _ _ _ _ x v=>T9 x++T9 v
 | .slc _ x lo hi| .sls x lo hi=>T9 x++B9o lo++B9o hi
 | .lenc _| .mkmap _| .bad=> []
 | .mput _ m k v=>T9 m++T9 k++T9 v
 | .callv f xs=>T9 f++xs.flatMap T9
section
variable {P:Program} {s s':St}
def C1(l:List Nat)(s s':St):Prop:= ∀i∈l,C3 s.sl i=C3 s'.sl i
theorem C1.left{l r:List Nat}(h:C1 (l++r) s s'):C1 l s s':=fun i hi=>h i (by simp [hi])
theorem C1.right{l r:List Nat}(h:C1 (l++r) s s'):C1 r s s':=fun i hi=>h i (by simp [hi])
theorem C1.ev{x:Opd}(h:C1 (T9 x) s s'):s.ev x=s'.ev x:=by
 cases x with
 |t i=>exact h i (by simp [T9])
 |c v=>rfl
 |f g=>rfl
 |g g=>rfl
theorem C1.evo{x:Option Opd}(h:C1 (B9o x) s s'):x.map s.ev=x.map s'.ev:=by
 cases x with
 |none=>rfl
 |some x=>simp only [Option.map_some];rw [C1.ev h]
theorem C1.evs: ∀{xs:List Opd} (_:C1 (xs.flatMap T9) s s'),xs.map s.ev=xs.map s'.ev
 | [],_=>rfl
 |x::r,h=>by
  rw [List.flatMap_cons]at h
  simp only [List.map_cons,h.left.ev,C1.evs h.right]
theorem C1.rows{sz:Nat}: ∀{xs:List Opd} (_:C1 (xs.flatMap T9) s s'),G7 sz s xs=G7 sz s' xs
 | [],_=>rfl
 |x::r,h=>by
  rw [List.flatMap_cons]at h
  simp only [G7,h.left.ev,C1.rows h.right]
theorem C1.fill: ∀{ps:List (Nat×Nat×Opd)} {z:List V} (_:C1 (ps.flatMap fun p=>T9 p.2.2) s s'),A2p s z ps=A2p s' z ps
 | [],_,_=>rfl
 | p::r,z,h=>by
  rw [List.flatMap_cons]at h
  simp only [A2p,h.left.ev]
  cases A1E (s'.ev p.2.2)with
  |none=>rfl
  |some cs=>
   simp only
   rw [C1.fill (z:=J2 z p.1 cs) h.right]
theorem T8{ao:AO}{k:Res}(h:C1 (A3y ao) s s')(hh:s.h=s'.h)(hn:s.n=s'.n):A7 P ao s k=A7 P ao s' k:=by
 cases ao<;>simp only [A3y]at h<;>simp only [A7,hh,hn]
 case mov=>rw [h.ev]
 case nilck=>rw [h.ev]
 case box=>rw [h.ev]
 case load=>rw [h.ev]
 case faddr=>rw [h.ev]
 case fld=>rw [h.ev]
 case ext=>rw [h.ev]
 case un=>rw [h.ev]
 case negw=>rw [h.ev]
 case conv=>rw [h.ev]
 case bst=>rw [h.ev]
 case cap0=>rw [h.ev]
 case rgm=>rw [h.ev]
 case nxm=>rw [h.ev]
 case ent=>rw [h.ev]
 case grw=>rw [h.left.ev,h.right.ev]
 case byts=>rw [h.ev]
 case isnil=>rw [h.ev]
 case len=>rw [h.ev]
 case mksl=>rw [h.ev]
 case pick=>rw [h.left.left.ev,h.left.right.ev,h.right.ev]
 case build=>rw [h.fill]
 case mkrow=>rw [h.rows]
 case mkisl=>rw [h.rows]
 case mkraw=>rw [h.rows]
 case cvr=>rw [h.ev]
 case mm=>rw [h.evs]
 case mkfn=>rw [h.evs]
 case call=>rw [h.evs]
 case eqn=>rw [h.ev]
 case pcall=>rw [h.evs]
 case store=>rw [h.left.ev,h.right.ev]
 case iaddr=>rw [h.left.ev,h.right.ev]
 case iaddrA=>rw [h.left.ev,h.right.ev]
 case idx=>rw [h.left.ev,h.right.ev]
 case bin=>rw [h.left.ev,h.right.ev]
 case binw=>rw [h.left.ev,h.right.ev]
 case eqp=>rw [h.left.ev,h.right.ev]
 case eqa=>rw [h.left.ev,h.right.ev]
 case app=>rw [h.left.ev,h.right.ev]
 case apb=>rw [h.left.ev,h.right.ev]
 case copy=>rw [h.left.ev,h.right.ev]
 case look=>rw [h.left.ev,h.right.ev]
 case mdel=>rw [h.left.ev,h.right.ev]
 case sh=>rw [h.left.ev,h.right.ev]
 case idxA=>rw [h.left.ev,h.right.ev]
 case clr=>rw [h.ev]
 case slz=>rw [h.ev]
 case slc=>rw [h.left.left.ev,h.left.right.evo,h.right.evo]
 case sls=>rw [h.left.left.ev,h.left.right.evo,h.right.evo]
 case mput=>rw [h.left.left.ev,h.left.right.ev,h.right.ev]
 case callv=>rw [h.left.ev,h.right.evs]
section mono
variable {k k':Res} {hp:A0} {n:Nat} (hk: ∀v h n,k v h n→k' v h n)
include hk
theorem E3{o:Option V}(h:G8 o k hp n):G8 o k' hp n:=by
 cases o with
 |none=>exact h
 |some v=>exact hk _ _ _ h
theorem A8T{f:FuncId}{as:List V}(h:A2 P f as hp n k):A2 P f as hp n k':=fun w O ρ cargs h1 h2=>(h w O ρ cargs h1 h2).mono fun _ _ ⟨v,r,h',n',ρ',a,b,c⟩=>⟨v,r,h',n',ρ',a,hk _ _ _ b,c⟩
theorem C0B{fn neg:Bool}{x:V}(h:A5I fn neg x k hp n):A5I fn neg x k' hp n:=by
 unfold A5I at h⊢
 split at h
 ·exact hk _ _ _ h
 ·exact⟨hk _ _ _ h.1,fun e=>hk _ _ _ (h.2 e)⟩
 ·exact⟨hk _ _ _ h.1,fun e=>hk _ _ _ (h.2 e)⟩
 ·exact hk _ _ _ h
 ·exact hk _ _ _ h
 ·exact h.elim
theorem C0g{b st:Nat}{as:List V}(h:P7 P b st as hp n k):P7 P b st as hp n k':=fun w O ρ cargs h1 h2 h3=>
 let ⟨r,a,b,c⟩:=h w O ρ cargs h1 h2 h3
 ⟨r,a,b,c.mono fun _ _ ⟨v,x,h',n',ρ',e,q,r'⟩=>⟨v,x,h',n',ρ',e,hk _ _ _ q,r'⟩⟩
theorem C0m{op:BinOp}{x y:V}(h:S3 op x y k hp n):S3 op x y k' hp n:=by
 unfold S3 at h⊢
 split at h
 ·cases op<;>first
   |exact h
   |exact⟨h.1,hk _ _ _ h.2⟩
   |exact⟨h.1,h.2.1,hk _ _ _ h.2.2⟩
   |exact⟨h.1,h.2.1,h.2.2.1,hk _ _ _ h.2.2.2⟩
 ·cases op<;>first
   |exact h
   |exact hk _ _ _ h
   |exact⟨h.1,hk _ _ _ h.2⟩
 ·exact h
theorem C3j{l:Bool}{x y:V}(h:shK l x y k hp n):shK l x y k' hp n:=by
 unfold shK at h⊢
 split at h
 ·exact⟨h.1,hk _ _ _ h.2⟩
 ·exact h
theorem B8v{len sz m:Nat}{agg:Bool}{x y:V}(h:A7n len sz m agg x y k hp n):A7n len sz m agg x y k' hp n:=by
 unfold A7n at h⊢
 split at h
 ·exact⟨h.1,h.2.1,E3 hk h.2.2⟩
 ·exact h
theorem C0r{z:List V}{x:V}(h:B2d z x k hp n):B2d z x k' hp n:=by
 unfold B2d at h⊢
 split at h
 ·exact hk _ _ _ h
 ·split at h
  ·exact⟨h.1,h.2.1,hk _ _ _ h.2.2⟩
  ·exact h
 ·exact h
theorem C0K{nm:Nat}{z:List V}{x y:V}(h:B5o nm z x y k hp n):B5o nm z x y k' hp n:=by
 unfold B5o at h⊢
 split at h
 ·exact⟨h.1,h.2.1,hk _ _ _ h.2.2⟩
 ·exact h
theorem C1j{nm:Nat}{x:V}(h:B5L nm x k hp n):B5L nm x k' hp n:=by
 unfold B5L B8V at h⊢
 split at h
 ·refine⟨h.1,?_⟩
  replace h:=h.2
  split at h
  ·exact fun bs ck hl=>hk _ _ _ (h bs ck hl)
  ·exact h
 ·exact h
theorem C0X{x:V}(h:B5A x k hp n):B5A x k' hp n:=by
 unfold B5A B8M B3o at h⊢
 split at h
 ·split at h
  ·split at h
   ·exact⟨h.1,h.2.1,h.2.2.1,h.2.2.2.1,fun e=>hk _ _ _ (h.2.2.2.2.1 e),fun x e y hl=>hk _ _ _ (h.2.2.2.2.2 x e y hl)⟩
   ·exact h
  ·exact h
 ·exact h
theorem C0A{x:V}(h:B5i x k hp n):B5i x k' hp n:=by
 unfold B5i B8o B3o at h⊢
 split at h
 ·split at h
  ·split at h
   ·exact⟨h.1,h.2.1,h.2.2.1,hk _ _ _ h.2.2.2⟩
   ·exact h
  ·exact h
 ·exact h
theorem B8c{nm:Nat}{x:V}(h:A8y nm x k hp n):A8y nm x k' hp n:=by
 unfold A8y at h⊢
 split at h
 ·exact hk _ _ _ h
 ·exact h
theorem C1x{nm sz:Nat}{x:V}(h:B2j nm sz x k hp n):B2j nm sz x k' hp n:=by
 unfold B2j at h⊢
 split at h
 ·exact hk _ _ _ h
 ·exact hk _ _ _ h
 ·exact hk _ _ _ h
 ·exact h
theorem C3J{op:UnOp}{x:V}(h:unK op x k hp n):unK op x k' hp n:=by
 unfold unK at h⊢
 split at h
 ·exact⟨h.1,hk _ _ _ h.2⟩
 ·exact hk _ _ _ h
 ·exact hk _ _ _ h
 ·exact h
theorem B4b{L nm sz:Nat}{b:V}{xs:Option (List (List V))}(h:A7d L nm sz b xs k hp n):A7d L nm sz b xs k' hp n:=by
 unfold A7d at h⊢
 cases xs with
 |none=>exact h
 | some xs=>
  obtain⟨h1,h⟩:=h
  refine⟨h1,?_⟩
  cases b<;>first
   |exact h
   |exact⟨h.1,hk _ _ _ h.2⟩
   |skip
  simp only at h⊢
  split at h
  ·exact⟨h.1,h.2.1,h.2.2.1,hk _ _ _ h.2.2.2⟩
  ·exact h
theorem B8e{sz:Nat}{b:V}{xs:Option (List (List V))}(h:A6e sz b xs k hp n):A6e sz b xs k' hp n:=by
 unfold A6e at h⊢
 cases xs with
 |none=>exact h
 | some xs=>
  obtain⟨h1,h⟩:=h
  refine⟨h1,?_⟩
  cases b<;>first
   |exact h
   |exact hk _ _ _ h
   |skip
  simp only at h⊢
  split at h
  ·exact⟨h.1,h.2.1,hk _ _ _ h.2.2⟩
  ·exact h
theorem C1v{sz:Nat}{x:V}{lo hi:Option V}(h:B0F sz x lo hi k hp n):B0F sz x lo hi k' hp n:=by
 unfold B0F at h⊢
 cases x<;>first
  |exact h
  | (simp only at h⊢
     split at h
     ·first
       |exact⟨h.1,h.2.1,h.2.2.1,h.2.2.2.1,hk _ _ _ h.2.2.2.2⟩
       |exact⟨h.1,h.2.1,hk _ _ _ h.2.2⟩
     ·exact h)
theorem C1w{x:V}{lo hi:Option V}(h:B2i x lo hi k hp n):B2i x lo hi k' hp n:=by
 unfold B2i at h⊢
 cases x<;>first
  |exact h
  | (simp only at h⊢
     split at h
     ·exact⟨h.1,h.2.1,h.2.2.1,hk _ _ _ h.2.2.2⟩
     ·exact h)
theorem P3{ao:AO}(h:A7 P ao s k):A7 P ao s k':=by
 cases ao<;>simp only [A7]at h⊢
 case mov=>exact hk _ _ _ h
 case pick=>exact E3 hk h
 case nilck=>exact E3 hk h
 case build=>exact E3 hk h
 case load=>exact E3 hk h
 case faddr=>exact E3 hk h
 case fld=>exact E3 hk h
 case ext=>exact E3 hk h
 case eqp=>exact E3 hk h
 case eqa=>exact E3 hk h
 case conv=>exact E3 hk h
 case bst=>exact E3 hk h
 case cap0=>exact E3 hk h
 case rgm=>exact C1j hk h
 case nxm=>exact C0X hk h
 case ent=>exact C0A hk h
 case grw=>exact C0K hk h
 case byts=>exact B8c hk h
 case isnil=>exact E3 hk h
 case len=>exact E3 hk h
 case mm=>exact E3 hk h
 case lenc=>exact hk _ _ _ h
 case mkfn=>exact hk _ _ _ h
 case mkmap=>exact hk _ _ _ h
 case bin=>exact C0m hk h
 case binw=>exact E3 hk h
 case un=>exact C3J hk h
 case negw=>exact E3 hk h
 case sh=>exact C3j hk h
 case idxA=>exact B8v hk h
 case clr=>exact C0r hk h
 case slz=>exact C1x hk h
 case app=>exact B4b hk h
 case apb=>exact B4b hk h
 case copy=>exact B8e hk h
 case slc=>exact C1v hk h
 case sls=>exact C1w hk h
 case call=>exact A8T hk h
 case pcall=>
  obtain⟨r,h1,h2⟩:=h
  exact⟨r,h1,hk _ _ _ h2⟩
 case eqn=>exact C0B hk h
 case callv=>
  unfold A7f at h⊢
  split at h
  ·exact⟨h.1,A8T hk h.2⟩
  ·exact C0g hk h
  ·exact h
 case box=>
  unfold B3Q at h⊢
  split at h
  ·exact⟨h.1,hk _ _ _ h.2⟩
  ·exact h
 case mkrow=>
  unfold B7y at h⊢
  split at h
  ·exact hk _ _ _ h
  ·exact h
 case mkraw=>
  unfold B8P at h⊢
  split at h
  ·exact⟨h.1,hk _ _ _ h.2⟩
  ·exact h
 case cvr=>
  unfold B5h at h⊢
  split at h
  ·unfold B8f at h⊢
   split at h
   ·exact⟨h.1,hk _ _ _ h.2⟩
   ·exact h
  ·exact h
 case mkisl=>
  unfold B6Q at h⊢
  split at h
  ·exact hk _ _ _ h
  ·exact h
 case store=>
  unfold A8A at h⊢
  split at h
  ·exact hk _ _ _ h
  ·exact h
 case iaddr=>
  unfold A1H at h⊢
  split at h
  ·split at h
   ·exact⟨h.1,h.2.1,h.2.2.1,hk _ _ _ h.2.2.2⟩
   ·exact⟨h.1,h.2.1,h.2.2.1,hk _ _ _ h.2.2.2⟩
   ·exact h
  ·exact h
 case iaddrA=>
  unfold A1M at h⊢
  split at h
  ·split at h
   ·exact⟨h.1,h.2.1,hk _ _ _ h.2.2⟩
   ·exact⟨h.1,h.2.1,hk _ _ _ h.2.2⟩
   ·exact h
  ·exact h
 case idx=>
  unfold B5r at h⊢
  split at h
  ·exact⟨h.1,E3 hk h.2⟩
  ·exact h
 case mksl=>
  unfold B1K at h⊢
  split at h
  ·exact⟨h.1,h.2.1,hk _ _ _ h.2.2⟩
  ·exact h
 case look=>
  unfold A6g at h⊢
  split at h
  ·exact⟨h.1,hk _ _ _ h.2⟩
  ·split at h
   ·exact⟨h.1,h.2.1,hk _ _ _ h.2.2⟩
   ·exact h
  ·exact h
 case mput=>
  unfold B0f at h⊢
  split at h
  ·split at h
   ·exact⟨h.1,h.2.1,hk _ _ _ h.2.2⟩
   ·exact h
  ·exact h
 case mdel=>
  unfold A8C at h⊢
  split at h
  ·exact⟨h.1,hk _ _ _ h.2⟩
  ·split at h
   ·exact⟨h.1,h.2.1,hk _ _ _ h.2.2⟩
   ·exact h
  ·exact h
end mono
def cls:AO→Nat
 | .mov _| .pick .. | .nilck _| .build .. | .mkisl .. | .faddr .. | .iaddrA .. | .fld .. | .idx .. | .ext .. | .bin .. | .binw .. | .eqp .. | .eqa .. | .un .. | .negw .. | .conv .. | .isnil .. | .lenc _| .mm .. | .mkfn .. | .sls .. | .sh .. | .idxA .. =>0
 | .load .. | .iaddr .. | .len .. | .slc .. | .look .. =>1
 |_=>2
def keeps:AO→Bool
 | .pcall .. =>true
 | .eqn .. =>true
 |_=>false
def C6g(P:Program)(ao:AO)(s:St)(pre:Prop)(v:V):Prop:= ∀(k:Res) h n,(cls ao=0∨h=s.h)→(A7 P ao ⟨s.sl,h,n⟩ k↔pre∧k v h n)
theorem G1(o:Option V): ∃(pre:Prop) (v:V),∀(k:Res) h n,G8 o k h n↔pre∧k v h n:=by
 cases o with
 |none=>exact⟨False,.undef,fun k h n=>by simp [G8]⟩
 |some v=>exact⟨True,v,fun k h n=>by simp [G8]⟩
theorem af2{a b x:Prop}:(a∧b∧x)↔((a∧b)∧x):=and_assoc.symm
theorem af3{a b c x:Prop}:(a∧b∧c∧x)↔((a∧b∧c)∧x):=by simp only [and_assoc]
theorem af4{a b c d x:Prop}:(a∧b∧c∧d∧x)↔((a∧b∧c∧d)∧x):=by simp only [and_assoc]
theorem A1N: ∃(pre:Prop) (v:V),∀(k:Res) (h:A0) (n:Nat),False↔pre∧k v h n:=⟨False,.undef,fun _ _ _=>by simp⟩
theorem C0l(op:BinOp)(x y:V): ∃(pre:Prop) (v:V),∀(k:Res) h n,S3 op x y k h n↔pre∧k v h n:=by
 unfold S3
 split
 ·cases op
  case add=>unfold R9;exact⟨_,_,fun k h n=>af2⟩
  case sub=>unfold R9;exact⟨_,_,fun k h n=>af2⟩
  case mul=>unfold R9;exact⟨_,_,fun k h n=>af2⟩
  case quo=>unfold R9;exact⟨_,_,fun k h n=>af3⟩
  case rem=>exact⟨_,_,fun k h n=>af2⟩
  case eql=>exact⟨_,_,fun k h n=>Iff.rfl⟩
  case neq=>exact⟨_,_,fun k h n=>Iff.rfl⟩
  case lss=>exact⟨_,_,fun k h n=>Iff.rfl⟩
  case leq=>exact⟨_,_,fun k h n=>Iff.rfl⟩
  case gtr=>exact⟨_,_,fun k h n=>Iff.rfl⟩
  case geq=>exact⟨_,_,fun k h n=>Iff.rfl⟩
  case and=>exact⟨_,_,fun k h n=>Iff.rfl⟩
  case or=>exact⟨_,_,fun k h n=>Iff.rfl⟩
  case xor=>exact⟨_,_,fun k h n=>Iff.rfl⟩
  case andNot=>exact⟨_,_,fun k h n=>Iff.rfl⟩
  all_goals exact⟨False,.undef,fun k h n=>by simp⟩
 ·cases op
  case add=>exact⟨_,_,fun k h n=>Iff.rfl⟩
  case eql=>exact⟨True,_,fun k h n=>by rw [true_and]⟩
  case neq=>exact⟨True,_,fun k h n=>by rw [true_and]⟩
  case lss=>exact⟨True,_,fun k h n=>by rw [true_and]⟩
  case geq=>exact⟨True,_,fun k h n=>by rw [true_and]⟩
  case leq=>exact⟨True,_,fun k h n=>by rw [true_and]⟩
  case gtr=>exact⟨True,_,fun k h n=>by rw [true_and]⟩
  all_goals exact⟨False,.undef,fun k h n=>by simp⟩
 ·exact A1N
theorem C3I(op:UnOp)(x:V): ∃(pre:Prop) (v:V),∀(k:Res) h n,unK op x k h n↔pre∧k v h n:=by
 unfold unK
 split
 ·unfold R9;exact⟨_,_,fun k h n=>Iff.rfl⟩
 ·exact⟨True,_,fun k h n=>by rw [true_and]⟩
 ·exact⟨True,_,fun k h n=>by rw [true_and]⟩
 ·exact A1N
theorem B9N{ao:AO}(h:cls ao≤1)(s:St): ∃pre v,C6g P ao s pre v:=by
 have c0: ∀{ao:AO},cls ao=0→(∃(pre:Prop) (v:V),∀(k:Res) h n,A7 P ao ⟨s.sl,h,n⟩ k↔pre∧k v h n)→ ∃pre v,C6g P ao s pre v:=fun _ ⟨pre,v,hf⟩=>⟨pre,v,fun k h n _=>hf k h n⟩
 have c1: ∀{ao:AO},cls ao=1→(∃(pre:Prop) (v:V),∀(k:Res) n,A7 P ao ⟨s.sl,s.h,n⟩ k↔pre∧k v s.h n)→ ∃pre v,C6g P ao s pre v:=fun hc ⟨pre,v,hf⟩=>⟨pre,v,fun k h n hh=>by
  rcases hh with hh|rfl
  ·rw [hc]at hh;cases hh
  ·exact hf k n⟩
 have o1: ∀(o:Option V),∃(pre:Prop) (v:V),∀(k:Res) (n:Nat),G8 o k s.h n↔pre∧k v s.h n:=fun o=>let ⟨p,v,hf⟩:=G1 o;⟨p,v,fun k n=>hf k s.h n⟩
 cases ao<;>simp only [cls]at h<;>try omega
 case mov x=>
  have e1: ∀h n,(⟨s.sl,h,n⟩:St).ev x=s.ev x:=fun h n=>C1.ev fun _ _=>rfl
  exact c0 rfl ⟨True,s.ev x,fun k h n=>by rw [true_and];simp only [A7,e1]⟩
 case pick c a b=>
  refine c0 rfl ?_
  have e0: ∀h n,(⟨s.sl,h,n⟩:St).ev c=s.ev c:=fun h n=>C1.ev fun _ _=>rfl
  have e1: ∀h n,(⟨s.sl,h,n⟩:St).ev a=s.ev a:=fun h n=>C1.ev fun _ _=>rfl
  have e2: ∀h n,(⟨s.sl,h,n⟩:St).ev b=s.ev b:=fun h n=>C1.ev fun _ _=>rfl
  simp only [A7,e0,e1,e2]
  exact G1 _
 case nilck x=>
  refine c0 rfl ?_
  have e0: ∀h n,(⟨s.sl,h,n⟩:St).ev x=s.ev x:=fun h n=>C1.ev fun _ _=>rfl
  simp only [A7,e0]
  exact G1 _
 case build z ps=>
  refine c0 rfl ?_
  have e: ∀h n,A2p ⟨s.sl,h,n⟩ z ps=A2p s z ps:=fun h n=>C1.fill fun _ _=>rfl
  simp only [A7,e]
  exact G1 _
 case mkisl sz xs=>
  refine c0 rfl ?_
  have e: ∀h n,G7 sz ⟨s.sl,h,n⟩ xs=G7 sz ⟨s.sl,[],0⟩ xs:=fun h n=>C1.rows fun _ _=>rfl
  simp only [A7,e]
  unfold B6Q
  split
  ·exact⟨True,_,fun k h n=>by rw [true_and]⟩
  ·exact A1N
 case faddr off x=>
  refine c0 rfl ?_
  have e0: ∀h n,(⟨s.sl,h,n⟩:St).ev x=s.ev x:=fun h n=>C1.ev fun _ _=>rfl
  simp only [A7,e0]
  exact G1 _
 case iaddrA len sz x i=>
  refine c0 rfl ?_
  simp only [A7]
  have e1: ∀h n,(⟨s.sl,h,n⟩:St).ev x=s.ev x:=fun h n=>C1.ev fun _ _=>rfl
  have e2: ∀h n,(⟨s.sl,h,n⟩:St).ev i=s.ev i:=fun h n=>C1.ev fun _ _=>rfl
  simp only [e1,e2]
  unfold A1M
  split
  ·split
   ·exact⟨_,_,fun k h n=>af2⟩
   ·exact⟨_,_,fun k h n=>af2⟩
   ·exact A1N
  ·exact A1N
 case fld off m agg x=>
  refine c0 rfl ?_
  have e0: ∀h n,(⟨s.sl,h,n⟩:St).ev x=s.ev x:=fun h n=>C1.ev fun _ _=>rfl
  simp only [A7,e0]
  exact G1 _
 case idx x i=>
  refine c0 rfl ?_
  simp only [A7]
  have e1: ∀h n,(⟨s.sl,h,n⟩:St).ev x=s.ev x:=fun h n=>C1.ev fun _ _=>rfl
  have e2: ∀h n,(⟨s.sl,h,n⟩:St).ev i=s.ev i:=fun h n=>C1.ev fun _ _=>rfl
  simp only [e1,e2]
  unfold B5r
  split
  ·rename_i b _ z _ _
   obtain⟨p,v,hf⟩:=G1 ((b[z.toNat]?).map fun b=> .int .u8 b.toNat)
   exact⟨_∧p,v,fun k h n=>by rw [and_assoc,←hf k h n]⟩
  ·exact A1N
 case ext i x=>
  refine c0 rfl ?_
  have e0: ∀h n,(⟨s.sl,h,n⟩:St).ev x=s.ev x:=fun h n=>C1.ev fun _ _=>rfl
  simp only [A7,e0]
  exact G1 _
 case bin op x y=>
  refine c0 rfl ?_
  have e0: ∀h n,(⟨s.sl,h,n⟩:St).ev x=s.ev x:=fun h n=>C1.ev fun _ _=>rfl
  have e1: ∀h n,(⟨s.sl,h,n⟩:St).ev y=s.ev y:=fun h n=>C1.ev fun _ _=>rfl
  simp only [A7,e0,e1]
  exact C0l _ _ _
 case binw op x y=>
  refine c0 rfl ?_
  have e0: ∀h n,(⟨s.sl,h,n⟩:St).ev x=s.ev x:=fun h n=>C1.ev fun _ _=>rfl
  have e1: ∀h n,(⟨s.sl,h,n⟩:St).ev y=s.ev y:=fun h n=>C1.ev fun _ _=>rfl
  simp only [A7,e0,e1]
  exact G1 _
 case sh l x y=>
  refine c0 rfl ?_
  have e0: ∀h n,(⟨s.sl,h,n⟩:St).ev x=s.ev x:=fun h n=>C1.ev fun _ _=>rfl
  have e1: ∀h n,(⟨s.sl,h,n⟩:St).ev y=s.ev y:=fun h n=>C1.ev fun _ _=>rfl
  simp only [A7,e0,e1]
  unfold shK
  split
  ·exact⟨_,_,fun k h n=>Iff.rfl⟩
  ·exact A1N
 case idxA len sz m agg x y=>
  refine c0 rfl ?_
  have e0: ∀h n,(⟨s.sl,h,n⟩:St).ev x=s.ev x:=fun h n=>C1.ev fun _ _=>rfl
  have e1: ∀h n,(⟨s.sl,h,n⟩:St).ev y=s.ev y:=fun h n=>C1.ev fun _ _=>rfl
  simp only [A7,e0,e1]
  unfold A7n
  split
  ·rename_i cs _ z _ _
   obtain⟨p,v,hf⟩:=G1 (J9 cs (z.toNat*sz) m agg)
   exact⟨_∧_∧p,v,fun k h n=>by rw [hf k h n];exact af3⟩
  ·exact A1N
 case eqp kd neg x y=>
  refine c0 rfl ?_
  have e0: ∀h n,(⟨s.sl,h,n⟩:St).ev x=s.ev x:=fun h n=>C1.ev fun _ _=>rfl
  have e1: ∀h n,(⟨s.sl,h,n⟩:St).ev y=s.ev y:=fun h n=>C1.ev fun _ _=>rfl
  simp only [A7,e0,e1]
  exact G1 _
 case eqa neg t x y=>
  refine c0 rfl ?_
  have e0: ∀h n,(⟨s.sl,h,n⟩:St).ev x=s.ev x:=fun h n=>C1.ev fun _ _=>rfl
  have e1: ∀h n,(⟨s.sl,h,n⟩:St).ev y=s.ev y:=fun h n=>C1.ev fun _ _=>rfl
  simp only [A7,e0,e1]
  exact G1 _
 case negw x=>
  refine c0 rfl ?_
  have e0: ∀h n,(⟨s.sl,h,n⟩:St).ev x=s.ev x:=fun h n=>C1.ev fun _ _=>rfl
  simp only [A7,e0]
  exact G1 _
 case un op x=>
  refine c0 rfl ?_
  have e0: ∀h n,(⟨s.sl,h,n⟩:St).ev x=s.ev x:=fun h n=>C1.ev fun _ _=>rfl
  simp only [A7,e0]
  exact C3I _ _
 case conv j x=>
  refine c0 rfl ?_
  have e0: ∀h n,(⟨s.sl,h,n⟩:St).ev x=s.ev x:=fun h n=>C1.ev fun _ _=>rfl
  simp only [A7,e0]
  exact G1 _
 case isnil neg x=>
  refine c0 rfl ?_
  have e0: ∀h n,(⟨s.sl,h,n⟩:St).ev x=s.ev x:=fun h n=>C1.ev fun _ _=>rfl
  simp only [A7,e0]
  exact G1 _
 case lenc m=>exact c0 rfl ⟨True,.int .i64 m,fun k h n=>by rw [true_and];exact Iff.rfl⟩
 case mm mx xs=>
  refine c0 rfl ?_
  have e: ∀h n,xs.map (⟨s.sl,h,n⟩:St).ev=xs.map s.ev:=fun h n=>C1.evs fun _ _=>rfl
  simp only [A7,e]
  exact G1 _
 case mkfn f xs=>
  refine c0 rfl ?_
  have e: ∀h n,xs.map (⟨s.sl,h,n⟩:St).ev=xs.map s.ev:=fun h n=>C1.evs fun _ _=>rfl
  simp only [A7,e]
  exact⟨True,_,fun k h n=>by rw [true_and]⟩
 case sls x lo hi=>
  refine c0 rfl ?_
  have e1: ∀h n,(⟨s.sl,h,n⟩:St).ev x=s.ev x:=fun h n=>C1.ev fun _ _=>rfl
  have e2: ∀h n,lo.map (⟨s.sl,h,n⟩:St).ev=lo.map s.ev:=fun h n=>C1.evo fun _ _=>rfl
  have e3: ∀h n,hi.map (⟨s.sl,h,n⟩:St).ev=hi.map s.ev:=fun h n=>C1.evo fun _ _=>rfl
  simp only [A7,e1,e2,e3]
  unfold B2i
  split
  ·split
   ·exact⟨_,_,fun k h n=>af3⟩
   ·exact A1N
  ·exact A1N
 case load m agg x=>
  have e1: ∀h n,(⟨s.sl,h,n⟩:St).ev x=s.ev x:=fun h n=>C1.ev fun _ _=>rfl
  refine c1 rfl ?_
  simp only [A7,e1]
  exact o1 _
 case len kd x=>
  have e1: ∀h n,(⟨s.sl,h,n⟩:St).ev x=s.ev x:=fun h n=>C1.ev fun _ _=>rfl
  refine c1 rfl ?_
  simp only [A7,e1]
  exact o1 _
 case iaddr sz x i=>
  refine c1 rfl ?_
  simp only [A7]
  have e1: ∀h n,(⟨s.sl,h,n⟩:St).ev x=s.ev x:=fun h n=>C1.ev fun _ _=>rfl
  have e2: ∀h n,(⟨s.sl,h,n⟩:St).ev i=s.ev i:=fun h n=>C1.ev fun _ _=>rfl
  simp only [e1,e2]
  unfold A1H
  split
  ·split
   ·exact⟨_,_,fun k n=>af3⟩
   ·exact⟨_,_,fun k n=>af3⟩
   ·exact⟨False,.undef,fun _ _=>by simp⟩
  ·exact⟨False,.undef,fun _ _=>by simp⟩
 case slc sz x lo hi=>
  refine c1 rfl ?_
  have e1: ∀h n,(⟨s.sl,h,n⟩:St).ev x=s.ev x:=fun h n=>C1.ev fun _ _=>rfl
  have e2: ∀h n,lo.map (⟨s.sl,h,n⟩:St).ev=lo.map s.ev:=fun h n=>C1.evo fun _ _=>rfl
  have e3: ∀h n,hi.map (⟨s.sl,h,n⟩:St).ev=hi.map s.ev:=fun h n=>C1.evo fun _ _=>rfl
  simp only [A7,e1,e2,e3]
  unfold B0F
  split
  ·split
   ·exact⟨_,_,fun k n=>af4⟩
   ·exact⟨False,.undef,fun _ _=>by simp⟩
  ·split
   ·exact⟨_,_,fun k n=>af4⟩
   ·exact⟨False,.undef,fun _ _=>by simp⟩
  ·split
   ·exact⟨_,_,fun k n=>af2⟩
   ·exact⟨False,.undef,fun _ _=>by simp⟩
  ·exact⟨False,.undef,fun _ _=>by simp⟩
 case look kd z ok m x=>
  refine c1 rfl ?_
  have e1: ∀h n,(⟨s.sl,h,n⟩:St).ev m=s.ev m:=fun h n=>C1.ev fun _ _=>rfl
  have e2: ∀h n,(⟨s.sl,h,n⟩:St).ev x=s.ev x:=fun h n=>C1.ev fun _ _=>rfl
  simp only [A7,e1,e2]
  unfold A6g
  split
  ·exact⟨_,_,fun k n=>Iff.rfl⟩
  ·split
   ·exact⟨_,_,fun k n=>af2⟩
   ·exact⟨False,.undef,fun _ _=>by simp⟩
  ·exact⟨False,.undef,fun _ _=>by simp⟩
end
end Go.Abs
namespace Go.Abs
def Eqv(s s':St):Prop:=(∀i,C3 s.sl i=C3 s'.sl i)∧s.h=s'.h∧s.n=s'.n
def A4j(K:St→Prop):Prop:= ∀s s',Eqv s s'→K s→K s'
theorem Eqv.refl(s:St):Eqv s s:=⟨fun _=>rfl,rfl,rfl⟩
theorem Eqv.symm{s s':St}(h:Eqv s s'):Eqv s' s:=⟨fun i=>(h.1 i).symm,h.2.1.symm,h.2.2.symm⟩
def f9(i:AI):List Nat:=A3y i.o++(match i.g with|some q=> [q.1]|none=> [])
def upd(s:St)(d:Option Nat)(v:V):St:=
 match d with
 |some d=>⟨E8 s.sl d v,s.h,s.n⟩
 |none=>s
section
variable {P:Program}
theorem A3w{sl sl':List (Nat×V)}(h: ∀i,C3 sl i=C3 sl' i)(d:Nat)(v:V)(i:Nat):C3 (E8 sl d v) i=C3 (E8 sl' d v) i:=by
 rw [F0,F0,h]
theorem A9Y{d:Option Nat}{sl:List (Nat×V)}{K K':St→Prop}(h: ∀s,K s→K' s): ∀v hp n,fin d sl K v hp n→fin d sl K' v hp n:=by
 intro v hp n hk
 cases d with
 |none=>exact h _ hk
 |some d=>exact h _ hk
theorem A3x{i:AI}{s:St}{K K':St→Prop}(h: ∀s,K s→K' s)(hk:D5 P i s K):D5 P i s K':=by
 unfold D5 at hk⊢
 split at hk
 ·exact P3 (A9Y h) hk
 ·unfold stepG at hk⊢
  split at hk
  ·exact⟨fun hb=>P3 (A9Y h) (hk.1 hb),fun hb=>A9Y h _ _ _ (hk.2 hb)⟩
  ·exact⟨hk.1,A9Y h _ _ _ hk.2⟩
  ·exact hk
theorem A9Z{d:Option Nat}{sl sl':List (Nat×V)}{K:St→Prop}(hK:A4j K)(h: ∀i,C3 sl i=C3 sl' i): ∀v hp n,fin d sl K v hp n→fin d sl' K v hp n:=by
 intro v hp n hk
 cases d with
 |none=>exact hK ⟨sl,hp,n⟩ ⟨sl',hp,n⟩ ⟨h,rfl,rfl⟩ hk
 |some d=>exact hK ⟨E8 sl d v,hp,n⟩ ⟨E8 sl' d v,hp,n⟩ ⟨fun i=>A3w h d v i,rfl,rfl⟩ hk
theorem A5Y{i:AI}{s s':St}{K:St→Prop}(hK:A4j K)(h:Eqv s s')(hk:D5 P i s K):D5 P i s' K:=by
 unfold D5 at hk⊢
 split at hk
 ·rw [←T8 (fun i _=>h.1 i) h.2.1 h.2.2]
  exact P3 (A9Z hK h.1) hk
 ·rename_i j want _
  rw [←h.1 j]
  unfold stepG at hk⊢
  split at hk
  ·refine⟨fun hb=> ?_,fun hb=> ?_⟩
   ·have:=hk.1 hb
    rw [T8 (s:=⟨E8 s.sl j (.bool want),s.h,s.n⟩) (s':=⟨E8 s'.sl j (.bool want),s'.h,s'.n⟩) (fun i _=>A3w h.1 j _ i) h.2.1 h.2.2]at this
    exact P3 (A9Z hK fun i=>A3w h.1 j _ i) this
   ·have:=hk.2 hb
    rw [←h.2.1,←h.2.2]
    exact A9Z hK (fun i=>A3w h.1 j _ i) _ _ _ this
  ·refine⟨hk.1,?_⟩
   rw [←h.2.1,←h.2.2]
   exact A9Z hK h.1 _ _ _ hk.2
  ·exact hk
theorem B3Z: ∀{l:List AI} {s:St} {K K':St→Prop},(∀s,K s→K' s)→A4k P l s K→A4k P l s K'
 | [],_,_,_,h,hk=>h _ hk
 |_::_,_,_,_,h,hk=>A3x (fun _=>B3Z h) hk
theorem A4v: ∀{l:List AI} {K:St→Prop},A4j K→A4j fun s=>A4k P l s K
 | [],_,hK=>hK
 |_::_,_,hK=>fun _ _ h hk=>A5Y (A4v hK) h hk
theorem P0{sl:List (Nat×V)}{j:Nat}{v:V}(h:C3 sl j=v)(i:Nat):C3 (E8 sl j v) i=C3 sl i:=by
 rw [F0]
 split
 ·rename_i e;rw [←e,h]
 ·rfl
theorem A5O{i:AI}(hc:cls i.o≤1)(s:St): ∃(pre:Prop) (v:V),∀s',C1 (f9 i) s s'→(cls i.o=0∨s'.h=s.h)→ ∀K,A4j K→(D5 P i s' K↔pre∧K (upd s' i.d v)):=by
 obtain⟨d,g,ao⟩:=i
 have fin_upd: ∀(s':St) (K:St→Prop) (v:V),fin d s'.sl K v s'.h s'.n↔K (upd s' d v):=by
  intro s' K v
  cases d<;>exact Iff.rfl
 cases g with
 |none=>
  obtain⟨pre,v,hf⟩:=B9N (P:=P) hc s
  refine⟨pre,v,fun s' ha hh K _=> ?_⟩
  have ha':C1 (A3y ao) s s':=ha.left
  have e:A7 P ao s' (fin d s'.sl K)=A7 P ao ⟨s.sl,s'.h,s'.n⟩ (fin d s'.sl K):=T8 (fun i hi=>(ha' i hi).symm) rfl rfl
  show A7 P ao s' (fin d s'.sl K)↔_
  rw [e,hf _ _ _ hh,fin_upd]
 | some q=>
  obtain⟨j,want⟩:=q
  have hj: ∀s',C1 (f9 ⟨d,some (j,want),ao⟩) s s'→C3 s.sl j=C3 s'.sl j:=fun s' ha=>ha j (by simp [f9])
  by_cases hb: ∃b,C3 s.sl j= .bool b
  ·obtain⟨b,hb⟩:=hb
   by_cases hbw:b=want
   ·subst hbw
    obtain⟨pre,v,hf⟩:=B9N (P:=P) hc ⟨E8 s.sl j (.bool b),s.h,s.n⟩
    refine⟨pre,v,fun s' ha hh K hK=> ?_⟩
    have hj':C3 s'.sl j= .bool b:=by rw [←hj s' ha];exact hb
    have ha':C1 (A3y ao) s s':=ha.left
    have e:A7 P ao ⟨E8 s'.sl j (.bool b),s'.h,s'.n⟩ (fin d (E8 s'.sl j (.bool b)) K)=A7 P ao ⟨E8 s.sl j (.bool b),s'.h,s'.n⟩ (fin d (E8 s'.sl j (.bool b)) K):=
     T8 (fun i hi=>by simp only [P0 hj',P0 hb];exact(ha' i hi).symm) rfl rfl
    have h1:D5 P ⟨d,some (j,b),ao⟩ s' K↔A7 P ao ⟨E8 s'.sl j (.bool b),s'.h,s'.n⟩ (fin d (E8 s'.sl j (.bool b)) K):=by
     simp only [D5,stepG,hj']
     constructor
     ·intro h;exact h.1 trivial
     ·intro h;exact⟨fun _=>h,fun hb=>by cases b<;>simp at hb⟩
    rw [h1,e,hf _ _ _ hh]
    refine and_congr_right fun _=> ?_
    rw [fin_upd ⟨E8 s'.sl j (.bool b),s'.h,s'.n⟩ K v]
    have ev:Eqv (upd ⟨E8 s'.sl j (.bool b),s'.h,s'.n⟩ d v) (upd s' d v):=by
     cases d with
     |none=>exact⟨fun i=>P0 hj' i,rfl,rfl⟩
     |some d=>exact⟨fun i=>A3w (P0 hj') d v i,rfl,rfl⟩
    exact⟨hK _ _ ev,hK _ _ ev.symm⟩
   ·have hbw':b= !want:=by cases b<;>cases want<;>simp_all
    refine⟨True,.cst Go.undef,fun s' ha hh K hK=> ?_⟩
    have hj':C3 s'.sl j= .bool b:=by rw [←hj s' ha];exact hb
    have h1:D5 P ⟨d,some (j,want),ao⟩ s' K↔fin d (E8 s'.sl j (.bool !want)) K (.cst Go.undef) s'.h s'.n:=by
     simp only [D5,stepG,hj']
     constructor
     ·intro h;exact h.2 hbw'
     ·intro h;exact⟨fun hb=>(hbw hb).elim,fun _=>h⟩
    rw [h1,true_and,←hbw',fin_upd ⟨E8 s'.sl j (.bool b),s'.h,s'.n⟩ K (.cst Go.undef)]
    have ev:Eqv (upd ⟨E8 s'.sl j (.bool b),s'.h,s'.n⟩ d (.cst Go.undef)) (upd s' d (.cst Go.undef)):=by
     cases d with
     |none=>exact⟨fun i=>P0 hj' i,rfl,rfl⟩
     |some d=>exact⟨fun i=>A3w (P0 hj') d (.cst Go.undef) i,rfl,rfl⟩
    exact⟨hK _ _ ev,hK _ _ ev.symm⟩
  ·by_cases hu: ∃u,C3 s.sl j= .cst u
   ·obtain⟨u,hu⟩:=hu
    refine⟨B0h u=true,.cst Go.undef,fun s' ha hh K hK=> ?_⟩
    have hj':C3 s'.sl j= .cst u:=by rw [←hj s' ha];exact hu
    simp only [D5,stepG,hj',fin_upd s' K (.cst Go.undef)]
   refine⟨False,.undef,fun s' ha hh K hK=> ?_⟩
   have hj': ∀b,C3 s'.sl j≠ .bool b:=fun b h=>hb ⟨b,by rw [hj s' ha];exact h⟩
   have hj2: ∀u,C3 s'.sl j≠ .cst u:=fun b h=>hu ⟨b,by rw [hj s' ha];exact h⟩
   rw [false_and,iff_false]
   intro h
   simp only [D5]at h
   cases hs:C3 s'.sl j<;>rw [hs]at h<;>first
    |exact hj' _ hs
    |exact hj2 _ hs
    |exact h
theorem C6Q{j:AI}{s:St}{d:Nat}{v:V}{K:St→Prop}(hK:A4j K)(hu:d∉f9 j)(hd:j.d≠some d)(h:D5 P j (upd s (some d) v) K):D5 P j s fun s2=>K (upd s2 (some d) v):=by
 have key: ∀(sl:List (Nat×V)) (r:V) (hp:A0) (n:Nat) (sl':List (Nat×V)),(∀i,C3 sl' i=C3 (E8 sl d v) i)→fin j.d sl' K r hp n→fin j.d sl (fun s2=>K (upd s2 (some d) v)) r hp n:=by
  intro sl r hp n sl' he hf
  cases hjd:j.d with
  |none=>rw [hjd]at hf;exact hK ⟨sl',hp,n⟩ ⟨E8 sl d v,hp,n⟩ ⟨he,rfl,rfl⟩ hf
  | some e=>
   rw [hjd]at hf
   refine hK ⟨E8 sl' e r,hp,n⟩ ⟨E8 (E8 sl e r) d v,hp,n⟩ ⟨fun i=> ?_,rfl,rfl⟩ hf
   have hne:e≠d:=fun h=>hd (by rw [hjd,h])
   simp only [F0,he]
   split
   ·split
    ·rename_i h1 h2;exact(hne (h1.trans h2.symm)).elim
    ·rfl
   ·rfl
 unfold D5 at h⊢
 split at h
 ·have ha:C1 (A3y j.o) (upd s (some d) v) s:=fun i hi=>by
   simp only [upd,F0]
   rw [if_neg]
   rintro rfl
   exact hu (by simp [f9,hi])
  rw [T8 ha rfl rfl]at h
  exact P3 (fun r hp n=>key s.sl r hp n _ fun _=>rfl) h
 ·rename_i jg want hg
  have hjg:jg≠d:=fun e=>hu (by simp [f9,hg,e])
  have hget:C3 (upd s (some d) v).sl jg=C3 s.sl jg:=by simp only [upd,F0];rw [if_neg (fun e=>hjg e.symm)]
  rw [hget]at h
  have comm: ∀b,∀i,C3 (E8 (upd s (some d) v).sl jg b) i=C3 (E8 (E8 s.sl jg b) d v) i:=by
   intro b i
   simp only [upd,F0]
   split
   ·split
    ·rename_i h1 h2;exact(hjg (h1.trans h2.symm)).elim
    ·rfl
   ·rfl
  unfold stepG at h⊢
  split at h
  ·refine⟨fun hb=> ?_,fun hb=> ?_⟩
   ·have h1:=h.1 hb
    have ha:C1 (A3y j.o) ⟨E8 (upd s (some d) v).sl jg (.bool want),s.h,s.n⟩ ⟨E8 s.sl jg (.bool want),s.h,s.n⟩:=fun i hi=>by
     simp only [comm,F0]
     rw [if_neg]
     rintro rfl
     exact hu (by simp [f9,hi])
    rw [show (upd s (some d) v).h=s.h from rfl,show (upd s (some d) v).n=s.n from rfl,T8 ha rfl rfl]at h1
    exact P3 (fun r hp n=>key (E8 s.sl jg (.bool want)) r hp n _ (comm _)) h1
   ·exact key (E8 s.sl jg (.bool !want)) _ _ _ _ (comm _) (h.2 hb)
  ·exact⟨h.1,key s.sl _ _ _ _ (fun _=>rfl) h.2⟩
  ·exact h
theorem B3H{ao:AO}{s:St}{k:Res}(h:A7 P ao s k):A7 P ao s fun r hp n=>k r hp n∧(keeps ao=true→hp=s.h):=by
 cases hk:keeps ao with
 |false=>exact P3 (fun r hp n hk=>⟨hk,fun h=>by cases h⟩) h
 | true=>
  cases ao<;>simp only [keeps]at hk<;>try (cases hk;done)
  case pcall=>
   obtain⟨r,h1,h2⟩:=h
   exact⟨r,h1,h2,fun _=>rfl⟩
  case eqn fn neg x=>
   have h:A5I fn neg (s.ev x) k s.h s.n:=h
   simp only [A7]
   unfold A5I at h⊢
   split at h
   ·exact⟨h,fun _=>rfl⟩
   ·exact⟨⟨h.1,fun _=>rfl⟩,fun e=>⟨h.2 e,fun _=>rfl⟩⟩
   ·exact⟨⟨h.1,fun _=>rfl⟩,fun e=>⟨h.2 e,fun _=>rfl⟩⟩
   ·exact⟨h,fun _=>rfl⟩
   ·exact⟨h,fun _=>rfl⟩
   ·exact h.elim
theorem B9m{j:AI}{s:St}{K:St→Prop}(hK:A4j K)(h:D5 P j s K):D5 P j s fun s2=>K s2∧(∀x,j.d≠some x→C3 s2.sl x=C3 s.sl x)∧(cls j.o≤1∨keeps j.o=true→s2.h=s.h):=by
 by_cases hc:cls j.o≤1
 ·obtain⟨pre,v,hf⟩:=A5O (P:=P) hc s
  have h1:=(hf s (fun _ _=>rfl) (.inr rfl) K hK).1 h
  refine(hf s (fun _ _=>rfl) (.inr rfl) _ ?_).2 ⟨h1.1,h1.2,fun x hx=> ?_,fun _=> ?_⟩
  ·rintro a b he ⟨q1,q2,q3⟩
   exact⟨hK _ _ he q1,fun x hx=>by rw [←he.1 x];exact q2 x hx,fun hc=>by rw [←he.2.1];exact q3 hc⟩
  ·cases hjd:j.d with
   |none=>rfl
   |some d=>
    simp only [upd,F0]
    rw [if_neg]
    rintro rfl
    exact hx hjd
  ·cases j.d<;>rfl
 ·have key: ∀(sl:List (Nat×V)) (r:V) (hp:A0) (n:Nat),(∀i,C3 sl i=C3 s.sl i)→(keeps j.o=true→hp=s.h)→fin j.d sl K r hp n→
    fin j.d sl (fun s2=>K s2∧(∀x,j.d≠some x→C3 s2.sl x=C3 s.sl x)∧(cls j.o≤1∨keeps j.o=true→s2.h=s.h)) r hp n:=by
   intro sl r hp n he hkp hf
   cases hjd:j.d with
   |none=>rw [hjd]at hf;exact⟨hf,fun x _=>he x,fun h=>h.elim (fun h=>(hc h).elim) hkp⟩
   |some d=>
    rw [hjd]at hf
    refine⟨hf,fun x hx=> ?_,fun h=>h.elim (fun h=>(hc h).elim) hkp⟩
    simp only [F0]
    rw [if_neg (fun e=>hx (by rw [e])),he]
  unfold D5 at h⊢
  split at h
  ·exact P3 (fun r hp n hk=>key s.sl r hp n (fun _=>rfl) hk.2 hk.1) (B3H h)
  ·rename_i jg want _
   unfold stepG at h⊢
   split at h
   ·rename_i b hb
    refine⟨fun hbw=> ?_,fun hbw=> ?_⟩
    ·refine P3 (fun r hp n hk=>key _ r hp n (fun i=> ?_) hk.2 hk.1) (B3H (h.1 hbw))
     exact P0 (by rw [hb,hbw]) i
    ·exact key _ _ _ _ (fun i=>P0 (by rw [hb,hbw]) i) (fun _=>rfl) (h.2 hbw)
   ·exact⟨h.1,key s.sl _ _ _ (fun _=>rfl) (fun _=>rfl) h.2⟩
   ·exact h
def A8D(d:Option Nat)(l:List Nat):Bool:=
 match d with
 |some d=> !l.contains d
 |none=>true
def apart:Option Nat→Option Nat→Bool
 |some a,some b=> !(a==b)
 |_,_=>true
def A7r(a i:AI):Bool:=Nat.ble (cls a.o) 1&&(Nat.beq (cls a.o) 0||(Nat.ble (cls i.o) 1||keeps i.o))&&A8D a.d (f9 i)&&apart a.d i.d&&A8D i.d (f9 a)
theorem D1Z{a i:AI}{s:St}{K:St→Prop}(hok:A7r a i=true)(hK:A4j K)(h:D5 P a s fun s1=>D5 P i s1 K):D5 P i s fun s2=>D5 P a s2 K:=by
 unfold A7r at hok
 simp only [Bool.and_eq_true]at hok
 obtain⟨⟨⟨⟨h1,h2⟩,h3⟩,h4⟩,h5⟩:=hok
 have hc:=Nat.le_of_ble_eq_true h1
 obtain⟨pre,v,hf⟩:=A5O (P:=P) hc s
 have hK1:A4j fun s1=>D5 P i s1 K:=fun _ _ he hk=>A5Y hK he hk
 obtain⟨hpre,hi⟩:=(hf s (fun _ _=>rfl) (.inr rfl) _ hK1).1 h
 have hi2:D5 P i s fun s2=>K (upd s2 a.d v):=by
  cases had:a.d with
  |none=>rw [had]at hi;exact hi
  | some d=>
   rw [had]at hi h3 h4
   refine C6Q hK ?_ ?_ hi
   ·simpa [A8D]using h3
   ·intro he
    rw [he]at h4
    simp [apart]at h4
 have hKu:A4j fun s2=>K (upd s2 a.d v):=by
  intro x y he hk
  refine hK _ _ ?_ hk
  cases a.d with
  |none=>exact he
  |some d=>exact⟨fun q=>A3w he.1 d v q,he.2.1,he.2.2⟩
 refine A3x ?_ (B9m hKu hi2)
 rintro s2 ⟨q1,q2,q3⟩
 refine(hf s2 (fun x hx=>(q2 x fun e=> ?_).symm) ?_ K hK).2 ⟨hpre,q1⟩
 ·rw [e]at h5
  simp [A8D]at h5
  exact h5 hx
 ·rcases Bool.or_eq_true _ _ ▸ h2 with h|h
  ·exact .inl (Nat.eq_of_beq_eq_true h)
  ·exact .inr (q3 ((Bool.or_eq_true _ _ ▸ h).imp Nat.le_of_ble_eq_true id))
theorem A4k.vf: ∀{l:List AI} {s:St} {K:St→Prop},A4k P l s K→VF P l s K
 | [],_,_,h=>h
 |_::_,_,_,h=>fun _=>A3x (fun _ h=>A4k.vf h) h
def B6N(a:AI):Bool:=
 match a with
 |⟨some _,none,.box ..⟩|⟨some _,none,.mkrow ..⟩=>true
 |_=>false
def B9Q(i:AI):Bool:=
 match i with
 |⟨_,none,.load _ _ (.t _)⟩|⟨_,none,.iaddr _ (.t _) _⟩|⟨_,none,.len _ (.t _)⟩=>true
 |_=>false
def B8w(i:AI):Bool:=Nat.beq (cls i.o) 0||B9Q i
def A8h(a i:AI):Bool:=B6N a&&B8w i&&A8D a.d (f9 i)&&apart a.d i.d&&A8D i.d (f9 a)
def ok2(a i:AI):Bool:=A7r a i||A8h a i
def B0g(o:AO)(s:St):Option (V×Nat×Blk):=
 match o with
 | .box nm sz x=>match A1E (s.ev x)with
  |some cs=>bif Nat.beq cs.length sz then some (.ptr nm s.n 0 0,nm,.rows sz [cs])else none
  |none=>none
 | .mkrow nm sz xs=>match G7 sz s xs with
  |some rs=>some (.sl nm s.n 0 rs.length,nm,.rows sz rs)
  |none=>none
 |_=>none
def D1X(s:St)(d:Option Nat)(K:St→Prop):Option (V×Nat×Blk)→Prop
 |some q=>K (upd ⟨s.sl,A0.put s.h q.2.1 s.n q.2.2,s.n+1⟩ d q.1)
 |none=>False
theorem B5x{a:AI}(h:B6N a=true)(s:St)(K:St→Prop):D5 P a s K↔D1X s a.d K (B0g a.o s):=by
 obtain⟨d,g,o⟩:=a
 cases d with
 |none=>cases h
 |some d=>
 cases g with
 |some q=>cases h
 |none=>
 cases o<;>try (cases h;done)
 case box nm sz x=>
  simp only [D5,A7,B3Q,B0g]
  cases A1E (s.ev x)with
  |none=>exact Iff.rfl
  | some cs=>
   simp only
   cases hb:Nat.beq cs.length sz with
   |true=>
    have e:=Nat.eq_of_beq_eq_true hb
    exact⟨fun h=>h.2,fun h=>⟨e,h⟩⟩
   |false=>
    refine⟨fun h=> ?_,fun h=>h.elim⟩
    rw [h.1,Nat.beq_refl]at hb;cases hb
 case mkrow nm sz xs=>
  simp only [D5,A7,B7y,B0g]
  cases G7 sz s xs<;>exact Iff.rfl
theorem B7e{o:AO}{s s':St}(h:C1 (A3y o) s s')(hn:s.n=s'.n):B0g o s=B0g o s':=by
 cases o<;>try rfl
 case box=>simp only [A3y]at h;simp only [B0g,h.ev,hn]
 case mkrow=>simp only [A3y]at h;simp only [B0g,h.rows,hn]
theorem A0.get_old{h:A0}{nm n b st:Nat}{x y:Blk}(hs:st<n)(hg:A0.get (A0.put h nm n x) b st=some y):A0.get h b st=some y:=by
 unfold A0.put at hg
 rw [A0.get]at hg
 cases hb:Nat.beq nm b with
 |true=>
  have hne: ¬n=st:=by omega
  simp only [hb,cond_true,if_neg hne]at hg;cases hg
 | false=>
  rw [hb,cond_false]at hg
  clear hs
  induction h with
  |nil=>exact hg
  | cons e r ih=>
   unfold A0.del at hg ih
   rw [List.filter_cons]at hg
   rw [A0.get]
   cases he:Nat.beq e.1 nm with
   | true=>
    rw [he]at hg
    have:Nat.beq e.1 b=false:=by
     rw [Nat.eq_of_beq_eq_true he];exact hb
    rw [this,cond_false]
    exact ih hg
   |false=>
    rw [he]at hg
    simp only [Bool.not_false,if_true]at hg
    rw [A0.get]at hg
    cases hc:Nat.beq e.1 b with
    |true=>rw [hc,cond_true]at hg;exact hg
    |false=>rw [hc,cond_false]at hg;exact ih hg
theorem C0R{h:A0}{nm n m:Nat}{agg:Bool}{x:Blk}{v r:V}(hv:frB n v)(hl:A2s (A0.put h nm n x) v m agg=some r):A2s h v m agg=some r:=by
 cases v<;>try exact hl
 case ptr b st i j=>
  simp only [A2s]at hl⊢
  cases hg:A0.get (A0.put h nm n x) b st with
  |none=>rw [hg]at hl;cases hl
  |some y=>rw [hg]at hl;rw [A0.get_old hv hg];exact hl
theorem C2I{h:A0}{nm n kd:Nat}{x:Blk}{v r:V}(hv:frB n v)(hl:B3a (A0.put h nm n x) kd v=some r):B3a h kd v=some r:=by
 match kd,hl with
 |0,hl=>cases v<;>exact hl
 |1,hl=>cases v<;>exact hl
 | 2,hl=>
  cases v with
  |mp b st=>
   simp only [B3a]at hl⊢
   cases hg:A0.get (A0.put h nm n x) b st with
   |none=>rw [hg]at hl;cases hl
   |some y=>rw [hg]at hl;rw [A0.get_old hv hg];exact hl
  |_=>exact hl
 |k+3,hl=>cases v<;>exact hl
theorem C2K{i:AI}(hi:B8w i=true){s:St}(hf: ∀q∈f9 i,frB s.n (C3 s.sl q)){sl1:List (Nat×V)}(ha: ∀q∈f9 i,C3 sl1 q=C3 s.sl q){nm n1:Nat}{blk:Blk}{K1:St→Prop}(hK1:A4j K1)
  (h:D5 P i ⟨sl1,A0.put s.h nm s.n blk,n1⟩ K1): ∃v,(∀K:St→Prop,A4j K→K (upd s i.d v)→D5 P i s K)∧K1 (upd ⟨sl1,A0.put s.h nm s.n blk,n1⟩ i.d v):=by
 by_cases hc:cls i.o=0
 ·obtain⟨pre,v,hl⟩:=A5O (P:=P) (i:=i) (by omega) s
  obtain⟨h1,h2⟩:=(hl _ (fun q hq=>(ha q hq).symm) (.inl hc) K1 hK1).1 h
  exact⟨v,fun K hK hk=>(hl s (fun _ _=>rfl) (.inl hc) K hK).2 ⟨h1,hk⟩,h2⟩
 replace hi:B9Q i=true:=by
  unfold B8w at hi
  rcases Bool.or_eq_true _ _ ▸ hi with h|h
  ·exact(hc (Nat.eq_of_beq_eq_true h)).elim
  ·exact h
 obtain⟨d,g,o⟩:=i
 have up: ∀(s:St) (K:St→Prop) (v:V),K (upd s d v)→fin d s.sl K v s.h s.n:=fun s K v h=>by cases d<;>exact h
 have dn: ∀(s:St) (K:St→Prop) (v:V),fin d s.sl K v s.h s.n→K (upd s d v):=fun s K v h=>by cases d<;>exact h
 cases g with
 |some q=>cases o<;>cases hi
 |none=>
 have ha':C1 (A3y o) ⟨sl1,A0.put s.h nm s.n blk,n1⟩ ⟨s.sl,A0.put s.h nm s.n blk,n1⟩:=fun q hq=>ha q (by simp [f9,hq])
 have h2:A7 P o ⟨s.sl,A0.put s.h nm s.n blk,n1⟩ (fin d sl1 K1):=by
  rw [←T8 ha' rfl rfl];exact h
 clear h ha'
 cases o<;>try (cases hi;done)
 case load m agg x=>
  cases x<;>try (cases hi;done)
  rename_i q
  have hq:=hf q (by simp [f9,A3y,T9])
  change G8 (A2s (A0.put s.h nm s.n blk) (C3 s.sl q) m agg) _ _ _ at h2
  cases hl:A2s (A0.put s.h nm s.n blk) (C3 s.sl q) m agg with
  |none=>rw [hl]at h2;exact h2.elim
  |some r=>
   rw [hl]at h2
   refine⟨r,fun K _ hk=> ?_,dn ⟨sl1,_,n1⟩ K1 r h2⟩
   show G8 (A2s s.h (C3 s.sl q) m agg) _ _ _
   rw [C0R hq hl];exact up s K r hk
 case len kd x=>
  cases x<;>try (cases hi;done)
  rename_i q
  have hq:=hf q (by simp [f9,A3y,T9])
  change G8 (B3a (A0.put s.h nm s.n blk) kd (C3 s.sl q)) _ _ _ at h2
  cases hl:B3a (A0.put s.h nm s.n blk) kd (C3 s.sl q)with
  |none=>rw [hl]at h2;exact h2.elim
  |some r=>
   rw [hl]at h2
   refine⟨r,fun K _ hk=> ?_,dn ⟨sl1,_,n1⟩ K1 r h2⟩
   show G8 (B3a s.h kd (C3 s.sl q)) _ _ _
   rw [C2I hq hl];exact up s K r hk
 case iaddr sz x y=>
  cases x<;>try (cases hi;done)
  rename_i q
  have hq:=hf q (by simp [f9,A3y,T9])
  change A1H sz (C3 s.sl q) (s.ev y) _ _ _ at h2
  have goal: ∀(K:St→Prop),D5 P ⟨d,none,.iaddr sz (.t q) y⟩ s K=A1H sz (C3 s.sl q) (s.ev y) (fin d s.sl K) s.h s.n:=fun K=>rfl
  cases hy:s.ev y<;>rw [hy]at h2<;>try (exact h2.elim)
  rename_i kz z
  cases hx:C3 s.sl q<;>rw [hx]at h2 hq<;>try (exact h2.elim)
  case sl b st i0 m=>
   obtain⟨h1,h2,h3,h4⟩:=h2
   refine⟨_,fun K _ hk=> ?_,dn ⟨sl1,_,n1⟩ K1 _ h4⟩
   rw [goal,hy,hx]
   refine⟨h1,h2,?_,up s K _ hk⟩
   cases hg:A0.get (A0.put s.h nm s.n blk) b st with
   |none=>rw [hg]at h3;cases h3
   |some w=>rw [hg]at h3;rw [A0.get_old (hq (by omega)) hg];exact h3
  case isl es=>
   obtain⟨h1,h2,h3,h4⟩:=h2
   refine⟨_,fun K _ hk=> ?_,dn ⟨sl1,_,n1⟩ K1 _ h4⟩
   rw [goal,hy,hx]
   exact⟨h1,h2,h3,up s K _ hk⟩
theorem D1n{a i:AI}{s:St}{K:St→Prop}(hok:A8h a i=true)(hK:A4j K)(hf: ∀q∈f9 i,frB s.n (C3 s.sl q))(h:D5 P a s fun s1=>D5 P i s1 K):D5 P i s fun s2=>D5 P a s2 K:=by
 unfold A8h at hok
 simp only [Bool.and_eq_true]at hok
 obtain⟨⟨⟨⟨h1,h2⟩,h3⟩,h4⟩,h5⟩:=hok
 rw [B5x h1]at h
 cases hn:B0g a.o s with
 |none=>rw [hn]at h;exact h.elim
 | some q=>
  rw [hn]at h
  have ha: ∀x∈f9 i,C3 (upd ⟨s.sl,A0.put s.h q.2.1 s.n q.2.2,s.n+1⟩ a.d q.1).sl x=C3 s.sl x:=fun x hx=>by
   cases had:a.d with
   |none=>rfl
   |some d=>
    simp only [upd,F0]
    rw [if_neg]
    rintro rfl
    rw [had]at h3
    simp [A8D]at h3
    exact h3 hx
  have hst:upd ⟨s.sl,A0.put s.h q.2.1 s.n q.2.2,s.n+1⟩ a.d q.1=⟨(upd ⟨s.sl,A0.put s.h q.2.1 s.n q.2.2,s.n+1⟩ a.d q.1).sl,A0.put s.h q.2.1 s.n q.2.2,s.n+1⟩:=by cases a.d<;>rfl
  have h:D5 P i (upd ⟨s.sl,A0.put s.h q.2.1 s.n q.2.2,s.n+1⟩ a.d q.1) K:=h
  rw [hst]at h
  obtain⟨v,hv1,hv2⟩:=C2K h2 hf ha hK h
  refine hv1 _ (fun _ _ he hk=>A5Y hK he hk) ?_
  have hu:upd s i.d v=⟨(upd s i.d v).sl,s.h,s.n⟩:=by cases i.d<;>rfl
  have hg:C1 (A3y a.o) (upd s i.d v) s:=fun x hx=>by
   cases hid:i.d with
   |none=>rfl
   |some e=>
    simp only [upd,F0]
    rw [if_neg]
    rintro rfl
    rw [hid]at h5
    simp [A8D,f9]at h5
    exact h5.1 hx
  rw [B5x h1,B7e hg (by rw [hu]),hn]
  show K (upd ⟨(upd s i.d v).sl,A0.put (upd s i.d v).h q.2.1 (upd s i.d v).n q.2.2,(upd s i.d v).n+1⟩ a.d q.1)
  refine hK _ _ ?_ hv2
  cases hid:i.d with
  |none=>cases had:a.d<;>exact Eqv.refl _
  | some e=>
   cases had:a.d with
   |none=>exact Eqv.refl _
   | some d=>
    refine⟨fun x=> ?_,rfl,rfl⟩
    rw [had,hid]at h4
    have hne:d≠e:=fun h=>by subst h;simp [apart]at h4
    simp only [upd,F0]
    by_cases c1:e=x
    ·rw [if_pos c1]
     rw [if_neg (fun h=>hne (h.trans c1.symm)),if_pos c1]
    ·rw [if_neg c1,if_neg c1]
theorem B3i(f:Nat→AI){K:St→Prop}(hK:A4j K)(i:Nat)(B:List Nat): ∀(A:List Nat) (s:St),(∀a∈A,ok2 (f a) (f i)=true)→(∀q∈f9 (f i),frB s.n (C3 s.sl q))→A4k P ((A++i::B).map f) s K→A4k P ((i::(A++B)).map f) s K
 | [],_,_,_,h=>h
 | a ::A,s,hok,hfr,h=>by
  have hoa:=hok a (by simp)
  have ih:=fun s1 hf1 h1=>B3i f hK i B A s1 (fun x hx=>hok x (by simp [hx])) hf1 h1
  have hRr:A4j fun s1=>A4k P ((A++i::B).map f) s1 K:=A4v hK
  have hRl:A4j fun s1=>D5 P (f i) s1 fun s2=>A4k P ((A++B).map f) s2 K:=fun _ _ he hk=>A5Y (A4v hK) he hk
  have h:D5 P (f a) s fun s1=>A4k P ((A++i::B).map f) s1 K:=h
  have h1:D5 P (f a) s fun s1=>D5 P (f i) s1 fun s2=>A4k P ((A++B).map f) s2 K:=by
   rcases Bool.or_eq_true _ _ ▸ (show (A7r (f a) (f i)||A8h (f a) (f i))=true from hoa)with ho|ho
   ·unfold A7r at ho
    simp only [Bool.and_eq_true]at ho
    obtain⟨⟨⟨⟨g1,_⟩,g3⟩,_⟩,_⟩:=ho
    obtain⟨pre,v,hl⟩:=A5O (P:=P) (Nat.le_of_ble_eq_true g1) s
    have h':=(hl s (fun _ _=>rfl) (.inr rfl) _ hRr).1 h
    refine(hl s (fun _ _=>rfl) (.inr rfl) _ hRl).2 ⟨h'.1,ih _ (fun q hq=> ?_) h'.2⟩
    have:=hfr q hq
    cases had:(f a).d with
    |none=>exact this
    | some d=>
     simp only [upd,F0]
     rw [if_neg]
     ·exact this
     ·rintro rfl
      rw [had]at g3
      simp [A8D]at g3
      exact g3 hq
   ·unfold A8h at ho
    simp only [Bool.and_eq_true]at ho
    obtain⟨⟨⟨⟨g1,_⟩,g3⟩,_⟩,_⟩:=ho
    rw [B5x g1]at h⊢
    cases hn:B0g (f a).o s with
    |none=>rw [hn]at h;exact h.elim
    | some r=>
     rw [hn]at h
     refine ih _ (fun q hq=> ?_) h
     have:=hfr q hq
     cases had:(f a).d with
     |none=>exact this.mono (Nat.le_succ _)
     | some d=>
      simp only [upd,F0]
      rw [if_neg]
      ·exact this.mono (Nat.le_succ _)
      ·rintro rfl
       rw [had]at g3
       simp [A8D]at g3
       exact g3 hq
  rcases Bool.or_eq_true _ _ ▸ (show (A7r (f a) (f i)||A8h (f a) (f i))=true from hoa)with ho|ho
  ·exact D1Z ho (A4v hK) h1
  ·exact D1n ho (A4v hK) hfr h1
theorem B9W(f:Nat→AI)(anc:Nat→Nat→Prop){K:St→Prop}(hK:A4j K): ∀(l T:List Nat) (s:St),T.Nodup→l.Perm T→T.Pairwise (fun a i=>ok2 (f a) (f i)=true∨anc a i)→l.Pairwise (fun i a=> ¬anc a i)→
  A4k P (T.map f) s K→VF P (l.map f) s K
 | [],T,s,_,hp,_,_,h=>by
  have:T= []:=hp.symm.eq_nil
  subst this
  exact h
 | i::l,T,s,hn,hp,hT,hl,h=>by
  have hi:i∈T:=hp.subset (by simp)
  obtain⟨A,B,rfl⟩:=List.append_of_mem hi
  have hp':l.Perm (A++B):=by
   have:(i::l).Perm (i::(A++B)):=hp.trans List.perm_middle
   exact this.cons_inv
  have hl':=List.pairwise_cons.1 hl
  have hok: ∀a∈A,ok2 (f a) (f i)=true:=by
   intro a ha
   have hTA:=(List.pairwise_append.1 hT).2.2 a ha i (by simp)
   rcases hTA with h|h
   ·exact h
   ·exact(hl'.1 a (hp'.symm.subset (by simp [ha])) h).elim
  intro hfr
  have h1:=B3i f hK i B A s hok (fun q _=>hfr q) h
  refine A3x (fun s1 h1=>B9W f anc hK l (A++B) s1 ?_ hp' ?_ hl'.2 h1) h1
  ·exact(List.perm_middle.nodup_iff.1 hn).of_cons
  ·exact hT.sublist (by simp)
theorem A9k: ∀(l r:List Nat),l.Nodup→(∀x∈l,x∈r)→r.length≤l.length→l.Perm r
 | [],r,_,_,h=>by
  have:r= []:=List.eq_nil_of_length_eq_zero (by simpa using h)
  subst this;exact .nil
 | x::l,r,hn,hs,hl=>by
  obtain⟨h1,h2⟩:=List.nodup_cons.1 hn
  obtain⟨A,B,rfl⟩:=List.append_of_mem (hs x (by simp))
  have:=A9k l (A++B) h2 (fun y hy=>by
   have:=hs y (by simp [hy])
   simp only [List.mem_append,List.mem_cons]at this⊢
   rcases this with h|rfl|h
   ·exact .inl h
   ·exact(h1 hy).elim
   ·exact .inr h) (by simp at hl⊢;omega)
  exact(this.cons x).trans List.perm_middle.symm
theorem B3m: ∀(l r:List Nat),l.Nodup→(∀x∈l,x∈r)→l.length≤r.length
 | [],_,_,_=>Nat.zero_le _
 | x::l,r,hn,hs=>by
  obtain⟨h1,h2⟩:=List.nodup_cons.1 hn
  obtain⟨A,B,rfl⟩:=List.append_of_mem (hs x (by simp))
  have:=B3m l (A++B) h2 (fun y hy=>by
   have:=hs y (by simp [hy])
   simp only [List.mem_append,List.mem_cons]at this⊢
   rcases this with h|rfl|h
   ·exact .inl h
   ·exact(h1 hy).elim
   ·exact .inr h)
  simp at this⊢;omega
def B2w(m:Region.Mode)(ops:Array Oper)(a i:Nat):Prop:= ∃o e,ops[i]? =some o∧e∈o.after∧Region.binds m e=true∧e.on=a
inductive Anc (m:Region.Mode) (ops:Array Oper):Nat→Nat→Prop
 |one {a i:Nat} (h:B2w m ops a i):Anc m ops a i
 |more {a b i:Nat} (h:B2w m ops b i) (h':Anc m ops a b):Anc m ops a i
def F8(m:Region.Mode)(ops:Array Oper):List Nat→Prop
 | []=>True
 |i::t=>(∀a,B2w m ops a i→a∈t)∧F8 m ops t
theorem F8.tail{m:Region.Mode}{ops:Array Oper}: ∀{t1 t2:List Nat},F8 m ops (t1++t2)→F8 m ops t2
 | [],_,h=>h
 |_::_,_,h=>F8.tail h.2
theorem F8.anc{m:Region.Mode}{ops:Array Oper}{a i:Nat}(h:Anc m ops a i): ∀{t:List Nat},F8 m ops (i::t)→a∈t:=by
 induction h with
 |one h=>intro t ht;exact ht.1 _ h
 |more h _ ih=>
  intro t ht
  obtain⟨t1,t2,rfl⟩:=List.append_of_mem (ht.1 _ h)
  have:=ih (F8.tail ht.2)
  simp [this]
theorem F8.pairwise{m:Region.Mode}{ops:Array Oper}: ∀{t:List Nat},F8 m ops t→t.Nodup→t.Pairwise fun a i=> ¬Anc m ops a i
 | [],_,_=> .nil
 |x::t,h,hn=>by
  obtain⟨h1,h2⟩:=List.nodup_cons.1 hn
  refine .cons (fun y hy hanc=> ?_) (F8.pairwise h.2 h2)
  obtain⟨t1,t2,rfl⟩:=List.append_of_mem hy
  have:=F8.anc hanc (F8.tail h.2)
  exact h1 (by simp [this])
structure LInv(m:Region.Mode)(ops:Array Oper)(listed:Array Bool)(acc:List Nat):Prop where
 size:listed.size=ops.size
 nodup:acc.Nodup
 mem: ∀i,i∈acc↔listed[i]? =some true
 before:F8 m ops acc
theorem B9O{m:Region.Mode}{ops:Array Oper}{T:List Nat}(hT:F8 m ops T)(hTm: ∀i,i<ops.size→i∈T)(hTl: ∀i∈T,i<ops.size): ∀(fuel t:Nat) (listed:Array Bool) (acc:List Nat),LInv m ops listed acc→acc.length+fuel=ops.size→
  ∃acc',Region.linearise.go m ops fuel t listed acc=acc'.reverse∧acc'.Nodup∧F8 m ops acc'∧acc'.length=ops.size∧ ∀i∈acc',i<ops.size
 |0,t,listed,acc,hi,hl=>by
  refine⟨acc,rfl,hi.nodup,hi.before,by simpa using hl,fun i h=> ?_⟩
  have:=(hi.mem i).1 h
  rw [←hi.size]
  exact(Array.getElem?_eq_some_iff.1 this).1
 | fuel+1,t,listed,acc,hi,hl=>by
  have hmem: ∀i∈acc,i<ops.size:=fun i h=>by
   have:=(hi.mem i).1 h
   rw [←hi.size]
   exact(Array.getElem?_eq_some_iff.1 this).1
  simp only [Region.linearise.go]
  generalize hrs:((List.range ops.size).filter fun i=> !listed.getD i true&&((ops[i]?).map (·.after.all fun e=> !Region.binds m e||listed.getD e.on false)).getD false)=rs
  have hin: ∀i,i∈rs↔i<ops.size∧listed[i]? =some false∧ ∀o,ops[i]? =some o→ ∀e∈o.after,Region.binds m e=true→listed[e.on]? =some true:=by
   intro i
   rw [←hrs,List.mem_filter,List.mem_range]
   refine and_congr_right fun hlt=> ?_
   have hs:i<listed.size:=by rw [hi.size];exact hlt
   rw [Bool.and_eq_true]
   have e1:(!listed.getD i true)=true↔listed[i]? =some false:=by
    simp only [Array.getD_eq_getD_getElem?,Array.getElem?_eq_getElem hs,Option.getD_some]
    cases listed[i]<;>simp
   rw [e1]
   refine and_congr_right fun _=> ?_
   simp only [Array.getElem?_eq_getElem hlt,Option.map_some,Option.getD_some,Array.all_eq_true']
   constructor
   ·rintro h o ho e he hb
    injection ho with ho
    subst ho
    have:=h e he
    rw [hb]at this
    simp only [Bool.not_true,Bool.false_or,Array.getD_eq_getD_getElem?]at this
    cases hq:listed[e.on]? with
    |none=>rw [hq]at this;cases this
    |some b=>rw [hq]at this;simp at this;rw [this]
   ·intro h e he
    cases hb:Region.binds m e with
    |false=>rfl
    |true=>simp [Array.getD_eq_getD_getElem?,h _ rfl e he hb]
  have hne:rs≠ []:=by
   intro h0
   have hsub: ∀t:List Nat,F8 m ops t→(∀i∈t,i<ops.size)→ ∀i∈t,i∈acc:=by
    intro t
    induction t with
    |nil=>intro _ _ i hi;cases hi
    | cons i t ih=>
     intro hb hl x hx
     have ih':=ih hb.2 fun y hy=>hl y (List.mem_cons_of_mem _ hy)
     rcases List.mem_cons.1 hx with rfl|hx
     ·have hlt:=hl x List.mem_cons_self
      have hs:x<listed.size:=by rw [hi.size];exact hlt
      cases hbb:listed[x]with
      |true=>exact(hi.mem x).2 (by rw [Array.getElem?_eq_getElem hs,hbb])
      |false=>
       have:x∈rs:=(hin x).2 ⟨hlt,by rw [Array.getElem?_eq_getElem hs,hbb],fun o ho e he hbe=>(hi.mem _).1 (ih' _ (hb.1 _ ⟨o,e,ho,he,hbe,rfl⟩))⟩
       rw [h0]at this
       cases this
     ·exact ih' x hx
   have hall: ∀i,i<ops.size→i∈acc:=fun i hlt=>hsub T hT hTl i (hTm i hlt)
   have hle:(List.range ops.size).length≤acc.length:=B3m _ _ List.nodup_range fun i h=>hall i (by simpa using h)
   simp at hle
   omega
  have hpos:0<rs.length:=List.length_pos_iff.2 hne
  have hlt:=Nat.mod_lt t hpos
  rw [List.getElem?_eq_getElem hlt]
  generalize hpick:rs[t%rs.length]=i
  have hi':=(hin i).1 (hpick ▸ List.getElem_mem hlt)
  obtain⟨h1,h2,h3⟩:=hi'
  have hnot:i∉acc:=fun h=>by have:=(hi.mem i).1 h;rw [h2]at this;cases this
  refine B9O hT hTm hTl fuel _ _ _ ⟨by simp [hi.size],List.nodup_cons.2 ⟨hnot,hi.nodup⟩,fun j=> ?_,fun a ⟨o,e,ho,he,hb,hon⟩=> ?_,hi.before⟩ (by simp;omega)
  ·rw [List.mem_cons,hi.mem,Array.getElem?_setIfInBounds]
   constructor
   ·rintro(rfl|h)
    ·rw [if_pos rfl,if_pos (by rw [hi.size];exact h1)]
    ·split
     ·rename_i hij;rw [←hij,h2]at h;cases h
     ·exact h
   ·intro h
    split at h
    ·rename_i hij;exact .inl hij.symm
    ·exact .inr h
  ·rw [←hon]
   exact(hi.mem _).2 (h3 o ho e he hb)
theorem B3b{m:Region.Mode}{ops:Array Oper}{T:List Nat}(hT:F8 m ops T)(hTm: ∀i,i<ops.size→i∈T)(hTl: ∀i∈T,i<ops.size)(t:Nat):(Region.linearise m ops t).Perm (List.range ops.size)∧(Region.linearise m ops t).Pairwise fun i a=> ¬Anc m ops a i:=by
 have h0: ∀i,i∈([]:List Nat)↔(Array.replicate ops.size false)[i]? =some true:=fun i=>by
  simp only [List.not_mem_nil,false_iff]
  intro h
  rw [Array.getElem?_replicate]at h
  split at h
  ·simp at h
  ·cases h
 obtain⟨acc,h1,h2,h3,h4,h5⟩:=B9O hT hTm hTl ops.size t (Array.replicate ops.size false) [] ⟨by simp,.nil,h0,trivial⟩ (by simp)
 rw [Region.linearise,h1]
 constructor
 ·refine(List.reverse_perm acc).trans ?_
  exact A9k _ _ h2 (fun i hi=>by simpa using h5 i hi) (by simp [h4])
 ·rw [List.pairwise_reverse]
  exact h3.pairwise h2
def B2m(m:Region.Mode)(ops:Array Oper):List Nat→Bool
 | []=>true
 |i::t=>(match ops[i]? with|some o=>o.after.toList.all fun e=> !(Region.binds m e)||t.any (Nat.beq e.on)|none=>true)&&B2m m ops t
theorem A2y{m:Region.Mode}{ops:Array Oper}: ∀{t:List Nat},B2m m ops t=true→F8 m ops t
 | [],_=>trivial
 |i::t,h=>by
  simp only [B2m,Bool.and_eq_true]at h
  refine⟨?_,A2y h.2⟩
  rintro a ⟨o,e,ho,he,hb,rfl⟩
  have h1:=h.1
  rw [ho]at h1
  simp only [List.all_eq_true]at h1
  have h2:=h1 e (Array.mem_toList_iff.2 he)
  rw [hb]at h2
  simp only [Bool.not_true,Bool.false_or,List.any_eq_true]at h2
  obtain⟨x,hx,hx2⟩:=h2
  rw [Nat.eq_of_beq_eq_true hx2];exact hx
inductive AncE (m:Region.Mode) (ops:Array Oper) (E:List (Nat×Nat)):Nat→Nat→Prop
 |one {a i:Nat} (h:B2w m ops a i∨(a,i)∈E):AncE m ops E a i
 |more {a b i:Nat} (h:B2w m ops b i∨(b,i)∈E) (h':AncE m ops E a b):AncE m ops E a i
def B1H:List (Nat×Nat)→Nat→Nat
 | [],_=>0
 |p::r,i=>bif Nat.beq p.1 i then p.2 else B1H r i
def B6Z(tab:List (Nat×Nat)):List Nat→Nat
 | []=>0
 |b::r=>(2^b|||B1H tab b)|||B6Z tab r
def C5L(m:Region.Mode)(ops:Array Oper)(E:List (Nat×Nat))(i:Nat):List Nat:=
 (match ops[i]? with|some o=>(o.after.toList.filter (Region.binds m)).map (·.on)|none=> [])++(E.filter fun p=>Nat.beq p.2 i).map (·.1)
def B0e(m:Region.Mode)(ops:Array Oper)(E:List (Nat×Nat)):List Nat→List (Nat×Nat)→List (Nat×Nat)
 | [],tab=>tab
 |i::r,tab=>B0e m ops E r ((i,B6Z tab (C5L m ops E i))::tab)
def B7W(tab:List (Nat×Nat))(a i:Nat):Bool:=Nat.testBit (B1H tab i) a
theorem B1I{m:Region.Mode}{ops:Array Oper}{E tab:List (Nat×Nat)}(ht: ∀i a,(B1H tab i).testBit a=true→AncE m ops E a i){i:Nat}: ∀{l:List Nat},(∀b∈l,B2w m ops b i∨(b,i)∈E)→ ∀a,(B6Z tab l).testBit a=true→AncE m ops E a i
 | [],_,a,h=>by simp [B6Z]at h
 | b::r,hl,a,h=>by
  simp only [B6Z,Nat.testBit_or,Bool.or_eq_true]at h
  rcases h with(h|h)|h
  ·rw [Nat.testBit_two_pow]at h
   have:b=a:=by simpa using h
   subst this
   exact .one (hl b List.mem_cons_self)
  ·exact .more (hl b List.mem_cons_self) (ht b a h)
  ·exact B1I ht (fun x hx=>hl x (List.mem_cons_of_mem _ hx)) a h
theorem B1J{m:Region.Mode}{ops:Array Oper}{E:List (Nat×Nat)}: ∀(T:List Nat) {tab:List (Nat×Nat)},(∀i a,(B1H tab i).testBit a=true→AncE m ops E a i)→ ∀i a,(B1H (B0e m ops E T tab) i).testBit a=true→AncE m ops E a i
 | [],_,h=>h
 | x ::r,tab,h=>B1J r fun i a hi=>by
  simp only [B1H]at hi
  cases hb:Nat.beq x i with
  |false=>rw [hb]at hi;exact h i a hi
  | true=>
   have:=Nat.eq_of_beq_eq_true hb
   subst this
   rw [hb,cond_true]at hi
   refine B1I h (fun b hb=> ?_) a hi
   unfold C5L at hb
   rcases List.mem_append.1 hb with hb|hb
   ·split at hb
    ·rename_i o ho
     obtain⟨e,he,rfl⟩:=List.mem_map.1 hb
     obtain⟨h1,h2⟩:=List.mem_filter.1 he
     exact .inl ⟨o,e,ho,Array.mem_toList_iff.1 h1,h2,rfl⟩
    ·cases hb
   ·obtain⟨p,hp,rfl⟩:=List.mem_map.1 hb
    obtain⟨h1,h2⟩:=List.mem_filter.1 hp
    have:=Nat.eq_of_beq_eq_true h2
    rw [←this]
    exact .inr h1
theorem A8V{m:Region.Mode}{ops:Array Oper}{E:List (Nat×Nat)}{T:List Nat}{a i:Nat}(h:B7W (B0e m ops E T []) a i=true):AncE m ops E a i:=
 B1J T (fun i a h=>by simp [B1H]at h) i a h
theorem AncE.anc{m:Region.Mode}{ops:Array Oper}{a i:Nat}(h:AncE m ops [] a i):Anc m ops a i:=by
 induction h with
 |one h=>exact .one (h.resolve_right (by simp))
 |more h _ ih=>exact .more (h.resolve_right (by simp)) ih
def pos(x:Nat):List Nat→Nat
 | []=>0
 |a::r=>bif Nat.beq a x then 0 else pos x r+1
theorem B0p: ∀{l:List Nat},l.Nodup→l.Pairwise fun x y=>pos x l<pos y l
 | [],_=> .nil
 | a::r,h=>by
  obtain⟨h1,h2⟩:=List.nodup_cons.1 h
  have ne: ∀y∈r,Nat.beq a y=false:=fun y hy=>by
   cases hb:Nat.beq a y with
   |false=>rfl
   |true=>exact(h1 (Nat.eq_of_beq_eq_true hb ▸ hy)).elim
  refine .cons (fun y hy=> ?_) ?_
  ·simp only [pos,Nat.beq_refl,cond_true,ne y hy,cond_false]
   omega
  ·refine(B0p h2).imp_of_mem fun hx hy hxy=> ?_
   simp only [pos,ne _ hx,ne _ hy,cond_false]
   omega
def A7y(l:List Nat)(p:Nat×Nat):Nat×Nat:=bif Nat.blt (pos p.1 l) (pos p.2 l)then p else(p.2,p.1)
def A5Q:List (Nat×Nat)→List (List (Nat×Nat))
 | []=> [[]]
 |p::r=>(A5Q r).map (p:: ·)++(A5Q r).map ((p.2,p.1):: ·)
theorem A7z(l:List Nat): ∀(C:List (Nat×Nat)),C.map (A7y l)∈A5Q C
 | []=>by simp [A5Q]
 |p::r=>by
  simp only [A5Q,List.map_cons,List.mem_append,List.mem_map]
  cases hb:Nat.blt (pos p.1 l) (pos p.2 l)with
  |true=>exact .inl ⟨_,A7z l r,by simp [A7y,hb]⟩
  |false=>exact .inr ⟨_,A7z l r,by simp [A7y,hb]⟩
theorem C0Y{l:List Nat}{p:Nat×Nat}(hne:pos p.1 l≠pos p.2 l):pos (A7y l p).1 l<pos (A7y l p).2 l:=by
 unfold A7y
 cases hb:Nat.blt (pos p.1 l) (pos p.2 l)with
 |true=>exact Nat.le_of_ble_eq_true hb
 | false=>
  have: ¬pos p.1 l<pos p.2 l:=fun h=>by
   have:=Nat.ble_eq_true_of_le (show pos p.1 l+1≤pos p.2 l from h)
   rw [Nat.blt,this]at hb
   cases hb
  simp only [cond_false]
  omega
theorem C2Y{l:List Nat}{x y:Nat}(hx:x∈l)(hxy:x≠y)(hn:l.Nodup):pos x l≠pos y l:=by
 induction l with
 |nil=>cases hx
 | cons a r ih=>
  obtain⟨h1,h2⟩:=List.nodup_cons.1 hn
  simp only [pos]
  by_cases ha:a=x
  ·subst ha
   have:Nat.beq a y=false:=by
    cases hb:Nat.beq a y with
    |false=>rfl
    |true=>exact(hxy (Nat.eq_of_beq_eq_true hb)).elim
   rw [Nat.beq_refl,this];simp
  ·have hax:Nat.beq a x=false:=by
    cases hb:Nat.beq a x with
    |false=>rfl
    |true=>exact(ha (Nat.eq_of_beq_eq_true hb)).elim
   rw [hax]
   have hx':x∈r:=by
    rcases List.mem_cons.1 hx with h|h
    ·exact(ha h.symm).elim
    ·exact h
   cases hb:Nat.beq a y with
   |true=>simp
   |false=>simpa using ih hx' h2
end
end Go.Abs
namespace Go.Abs
instance:Inhabited AI:=⟨⟨none,none,.mkmap 0⟩⟩
def A7g(P:Program)(B N:Nat)(ops:Array Oper):List Oper→Option (List AI)
 | []=>some []
 |o::r=>match B6q P B N ops o,A7g P B N ops r with
  |some i,some is=>some (i::is)
  |_,_=>none
def A9Q(m:Region.Mode)(ops:Array Oper)(extra:List (Nat×Nat))(new light:Nat→Bool):Nat→List Nat→List Nat→List Nat
 |0,_,acc=>acc.reverse
 | fuel+1,todo,acc=>
  let ready:=todo.filter fun i=>(match ops[i]? with
   |some o=>o.after.toList.all fun e=> !(Region.binds m e)||acc.any (Nat.beq e.on)
   |none=>false)&&extra.all fun p=> !(Nat.beq p.2 i)||acc.any (Nat.beq p.1)
  match (ready.find? new).orElse fun _=>(ready.find? light).orElse fun _=>ready.head? with
  |some i=>A9Q m ops extra new light fuel (todo.filter fun j=> !(Nat.beq j i)) (i::acc)
  |none=>acc.reverse
def B0U(ok:AI→AI→Bool)(f:Nat→AI)(anc:Nat→Nat→Bool):List Nat→List (Nat×Nat)
 | []=> []
 |a::r=>((r.filter fun i=> !(ok (f a) (f i)||anc a i)).map fun i=>(a,i))++B0U ok f anc r
def B2I(anc:Nat→Nat→Bool)(E:List (Nat×Nat)):Bool:=E.any fun p=>E.any fun q=>Nat.beq p.2 q.1&&(anc q.2 p.1||E.any fun r=>Nat.beq q.2 r.1&&(Nat.beq r.2 p.1||anc r.2 p.1))
def B0m(ok:AI→AI→Bool)(f:Nat→AI)(anc:Nat→Nat→Bool):List Nat→Bool
 | []=>true
 |a::r=>(r.all fun i=>ok (f a) (f i)||anc a i)&&B0m ok f anc r
def B5z:List Nat→Bool
 | []=>true
 |a::r=> !(r.any (Nat.beq a))&&B5z r
def B3M(n:Nat)(T:List Nat):Bool:=B5z T&&(Nat.beq T.length n&&T.all fun i=>Nat.blt i n)
def S8(ok:AI→AI→Bool)(new:Nat→Bool)(f:Nat→AI)(m:Region.Mode)(ops:Array Oper):Option (List (List Nat)):=
 let light:=fun i=>Nat.ble (cls (f i).o) 1
 let T0:=A9Q m ops [] new light ops.size (List.range ops.size) []
 let anc:=B7W (B0e m ops [] T0 [])
 let C:=B0U ok f anc T0
 let Es:=(A5Q C).filter fun E=> !B2I anc E
 let Ts:=Es.map fun E=>A9Q m ops E new light ops.size (List.range ops.size) []
 if (B3M ops.size T0&&B2m m ops T0.reverse)&&(Nat.ble C.length 8&&((C.all fun p=>Nat.blt p.1 ops.size&&Nat.blt p.2 ops.size&& !(Nat.beq p.1 p.2))&&
  ((Es.zip Ts).all fun q=>B3M ops.size q.2&&B0m ok f (B7W (B0e m ops q.1 q.2 [])) q.2)))
 then some Ts else none
def A3f(f:Nat→AI)(m:Region.Mode)(ops:Array Oper):Option (List (List Nat)):=
 match S8 A7r (fun _=>false) f m ops with
 |some Ts=>bif Nat.ble Ts.length 16 then some Ts else(S8 ok2 (fun i=>B6N (f i)) f m ops).orElse fun _=>some Ts
 |none=>S8 ok2 (fun i=>B6N (f i)) f m ops
def C2s:List Nat→List Nat→Bool
 | [],[]=>true
 |a::r,b::s=>Nat.beq a b&&C2s r s
 |_,_=>false
def A8Y(P:Program)(B N:Nat)(ops:Array Oper)(draw:Bool):Option (List (List AI)):=
 match A7g P B N ops ops.toList with
 |none=>none
 | some is=>
  if draw then
   let f:=fun i=>is.getD i default
   if P.follows .mixedOrders|| !Region.departs ops then(A3f f .any ops).map fun Ts=>Ts.map fun T=>T.map f
   else match A3f f .text ops,A3f f .gc ops with
    |some Ts,some Us=>some ((Ts++Us.filter fun U=> !(Ts.any (C2s U))).map fun T=>T.map f)
    |_,_=>none
  else some [is]
def B5f(P:Program)(N:Nat)(ops:Array Oper)(draw:Bool):Option Nat:=
 match draw,ops.toList with
 |false,[o0,o1]=>match o0.op,o1.op,o0.dst with
  | .makeFunc (.func f) first _,.defer q,some d=>bif first.isEmpty&&(B1A o0 d&&((match q.callee with| .value (.tmp i)=>Nat.beq i d|_=>false)&&(o1.dst.isNone&&(o1.guard.isNone&&(q.args.isEmpty&&(Nat.blt d N&&(J8 P f&&B5B P f)))))))then some d else none
  |_,_,_=>none
 |_,_=>none
abbrev A8o:Nat:=999999999
def N8(P:Program)(B N:Nat):Code→Option AC
 | .skip=>some .skip
 | .label _=>some .skip
 | .region _ ops draw=>match B5f P N ops draw with
  |some d=>some (.dfr d)
  |none=>match A8Y P B N ops draw with
   |some l=>some (.ops l)
   |none=>some .bad
 | .seq a b=>match N8 P B N a,N8 P B N b with
  |some a,some b=>some (.seq a b)
  |_,_=>none
 | .cond c a b=>match B0 c,N8 P B N a,N8 P B N b with
  |some c,some a,some b=>some (.cond c a b)
  |_,_,_=>none
 | .block id a=>(N8 P B N a).map (.block id)
 | .loop a=>(N8 P B N a).map .loop
 | .scope a=>(N8 P B N a).map (.block A8o)
 | .exit id=>some (.exit id)
 | .ret=>some .ret
 | .rangeFunc g ps a b=>match B0 g,N8 P B N a,N8 P B N b with
  |some g,some a,some b=>if ps.toList.all (Nat.blt · N)then some (.rng (B+9000+ps.toList.headD 0) g ps.toList a b)else some .bad
  |_,_,_=>none
 |_=>some .bad
inductive RV where
 |t (i:Nat)
 |c (i n:Nat) (agg:Bool)
def A4x(P:Program):List ResultVar→Option (List RV)
 | []=>some []
 | .tmp i::r=>(A4x P r).map (.t i:: ·)
 | .cell i t::r=>match A9D P t,A4x P r with
  |some (n,a),some rs=>some (.c i n a::rs)
  |_,_=>none
structure Cx where
 P:Program
 fn:Func
 N:Nat
 Q:Res
 bs:Nat
 rd:Option (Nat×Nat)
def A6F(s:St):List RV→Option (List V)
 | []=>some []
 | .t i::r=>(A6F s r).map (C3 s.sl i:: ·)
 | .c i n agg::r=>match A2s s.h (C3 s.sl i) n agg,A6F s r with
  |some v,some vs=>some (v::vs)
  |_,_=>none
def B0i:List V→V
 | [v]=>v
 |vs=> .tup vs
def C4I(c:Cx)(rs:List RV)(s:St):Prop:=
 match A6F s rs with
 |some vs=>c.Q (B0i vs) s.h s.n
 |none=>False
inductive RelL (P:Program) (N:Nat):List AItem→List Item→Prop
 |nil:RelL P N [] []
 |code {B:Nat} {ac:AC} {c:Code} {k:List AItem} {k':List Item} (h:N8 P B N c=some ac) (hk:RelL P N k k'):RelL P N (.code ac::k) (.code c::k')
 |blk {id:Nat} {k:List AItem} {k':List Item} (hk:RelL P N k k'):RelL P N (.blk id::k) (.inBlock id::k')
 |scp {c:Code} {k:List AItem} {k':List Item} (hk:RelL P N k k'):RelL P N (.blk A8o::k) (.inScope c::k')
 |lp {B:Nat} {ac:AC} {c:Code} {k:List AItem} {k':List Item} (h:N8 P B N c=some ac) (hk:RelL P N k k'):RelL P N (.lp ac::k) (.inLoop c::k')
 |beg {k:List AItem} {k':List Item} (hk:RelL P N k k'):RelL P N (.beg::k) (.beginRound::k')
def C0f(rd:Option (Nat×Nat))(n:Nat)(ρ:Nat→Loc)(b:Frame):Prop:=
 match rd with
 |none=>b.roundOf=none
 |some q=>q.2<n∧b.roundOf=some (ρ q.2).blk∧b.kind= .normal
theorem C0f.mono{rd:Option (Nat×Nat)}{n n':Nat}{ρ ρ':Nat→Loc}{b:Frame}(hn:n≤n')(hρ: ∀st,st<n→ρ' st=ρ st)(h:C0f rd n ρ b):C0f rd n' ρ' b:=by
 cases rd with
 |none=>exact h
 |some q=>exact⟨Nat.lt_of_lt_of_le h.1 hn,by rw [hρ _ h.1];exact h.2.1,h.2.2⟩
def B4X(c:Cx)(O:Nat→Prop)(E:Env)(m:Machine)(b:Frame)(cs:List Frame):Prop:=
 match c.rd with
 | none=> ∃todo a' w' ρ',∃(s':St) (rs:List RV),Steps c.P m (lone {b.atR a' todo with mode:= .returning} cs w')∧HeapR w' O ρ' s'.n s'.h∧Sim c.P c.bs c.N (A5 w' O ρ' s'.n s'.h) s'.sl a'∧
   Ext E (A5 w' O ρ' s'.n s'.h)∧A4x c.P c.fn.results.toList=some rs∧C4I c rs s'
 |some _=> ∀c0 cs',cs=c0::cs'→ ∃w' ρ' h' n' v r,Steps c.P m (lone (c0.finish v) cs' w')∧HeapR w' O ρ' n' h'∧R (A5 w' O ρ' n' h') r v∧Ext E (A5 w' O ρ' n' h')∧c.Q r h' n'
def OK(c:Cx)(k:List AItem)(s:St):Prop:=
 ∀O ρ a w k' b cs,HeapR w O ρ s.n s.h→Sim c.P c.bs c.N (A5 w O ρ s.n s.h) s.sl a→C0f c.rd s.n ρ b→RelL c.P c.N k k'→B4X c O (A5 w O ρ s.n s.h) (lone (b.atR a k') cs w) b cs
section
variable {c:Cx} {k:List AItem} {s:St}
theorem B4X.step{O:Nat→Prop}{E E':Env}{m m':Machine}{b:Frame}{cs:List Frame}(hs:Steps c.P m m')(hx:Ext E E')(h:B4X c O E' m' b cs):B4X c O E m b cs:=by
 unfold B4X at h⊢
 split at h
 ·obtain⟨todo,a',w',ρ',s',rs,h1,h2,h3,h4,h5,h6⟩:=h
  exact⟨todo,a',w',ρ',s',rs,hs.trans h1,h2,h3,hx.trans h4,h5,h6⟩
 ·intro c0 cs' e
  obtain⟨w',ρ',h',n',v,r,h1,h2,h3,h4,h5⟩:=h c0 cs' e
  exact⟨w',ρ',h',n',v,r,hs.trans h1,h2,h3,hx.trans h4,h5⟩
theorem OK.resp:A4j (OK c k):=by
 rintro s s' ⟨h1,h2,h3⟩ h O ρ a w k' b cs hr hs hd hk
 rw [←h2,←h3]at hr hs⊢
 rw [←h3]at hd
 exact h O ρ a w k' b cs hr ⟨hs.size,hs.base,hs.defers,fun i=>by rw [h1];exact hs.slot i⟩ hd hk
theorem OK.skip(h:OK c k s):OK c (.code .skip::k) s:=by
 intro O ρ a w k' b cs hr hs hd hk
 cases hk with
 |code hc hk=>
  rename_i cd _
  cases cd<;>simp only [N8]at hc<;>try (cases hc;done)
  case skip=>exact(h O ρ a w _ b cs hr hs hd hk).step (.one stepR_skip) (Ext.refl _)
  case label=>exact(h O ρ a w _ b cs hr hs hd hk).step (.one stepR_label) (Ext.refl _)
  case region id ops draw=>split at hc<;>first|(cases hc;done)|(split at hc<;>cases hc)
  case seq x y=>split at hc<;>cases hc
  case cond x y z=>split at hc<;>cases hc
  case block id x=>rw [Option.map_eq_some_iff]at hc;obtain⟨_,_,hc⟩:=hc;cases hc
  case scope x=>rw [Option.map_eq_some_iff]at hc;obtain⟨_,_,hc⟩:=hc;cases hc
  case loop x=>rw [Option.map_eq_some_iff]at hc;obtain⟨_,_,hc⟩:=hc;cases hc
  case rangeFunc g ps x y=>split at hc<;>first|(cases hc;done)|(split at hc<;>cases hc)
theorem OK.seq{x y:AC}(h:OK c (.code x:: .code y::k) s):OK c (.code (.seq x y)::k) s:=by
 intro O ρ a w k' b cs hr hs hd hk
 cases hk with
 | code hc hk=>
  rename_i cd _
  cases cd<;>simp only [N8]at hc<;>try (cases hc;done)
  case seq x y=>
   split at hc
   ·rename_i x' y' hx hy
    injection hc with hc
    injection hc with e1 e2
    subst e1;subst e2
    exact(h O ρ a w _ b cs hr hs hd (.code hx (.code hy hk))).step (.one stepR_seq) (Ext.refl _)
   ·cases hc
  case region id ops draw=>split at hc<;>first|(cases hc;done)|(split at hc<;>cases hc)
  case cond x y z=>split at hc<;>cases hc
  case block id x=>rw [Option.map_eq_some_iff]at hc;obtain⟨_,_,hc⟩:=hc;cases hc
  case scope x=>rw [Option.map_eq_some_iff]at hc;obtain⟨_,_,hc⟩:=hc;cases hc
  case loop x=>rw [Option.map_eq_some_iff]at hc;obtain⟨_,_,hc⟩:=hc;cases hc
  case rangeFunc g ps x y=>split at hc<;>first|(cases hc;done)|(split at hc<;>cases hc)
theorem OK.cond{x:Opd}{y z:AC}{t:Bool}(hv:s.ev x= .bool t)(h1:t=true→OK c (.code y::k) s)(h2:t=false→OK c (.code z::k) s):OK c (.code (.cond x y z)::k) s:=by
 intro O ρ a w k' b cs hr hs hd hk
 cases hk with
 | code hc hk=>
  rename_i cd _
  cases cd<;>simp only [N8]at hc<;>try (cases hc;done)
  case cond x y z=>
   split at hc
   ·rename_i x' y' z' hx hy hz
    injection hc with hc
    injection hc with e1 e2 e3
    subst e1;subst e2;subst e3
    have hev:=(hs.evr hr.gl).ev hx
    rw [hv]at hev
    have hev:=hev.bool_inv
    have hst:=stepR_cond (P:=c.P) (b:=b) (k:= ‹List Item›) (cs:=cs) (w:=w) (x:=y) (y:=z) hev
    cases t with
    |true=>exact(h1 rfl O ρ a w _ b cs hr hs hd (.code hy hk)).step (.one hst) (Ext.refl _)
    |false=>exact(h2 rfl O ρ a w _ b cs hr hs hd (.code hz hk)).step (.one hst) (Ext.refl _)
   ·cases hc
  case region id ops draw=>split at hc<;>first|(cases hc;done)|(split at hc<;>cases hc)
  case seq x y=>split at hc<;>cases hc
  case block id x=>rw [Option.map_eq_some_iff]at hc;obtain⟨_,_,hc⟩:=hc;cases hc
  case scope x=>rw [Option.map_eq_some_iff]at hc;obtain⟨_,_,hc⟩:=hc;cases hc
  case loop x=>rw [Option.map_eq_some_iff]at hc;obtain⟨_,_,hc⟩:=hc;cases hc
  case rangeFunc g ps x y=>split at hc<;>first|(cases hc;done)|(split at hc<;>cases hc)
theorem B7R{P:Program}{b:Frame}{a:Act}{k:List Item}{cs:List Frame}{w:World}{c:Code}:
  step P (lone (b.atR a (.code (.scope c)::k)) cs w)= .next (lone (b.atR a (.code c:: .inScope c::k)) cs w):=
 step_lone_go (by simp [Go.stepG,Go.stepG.exec,Frame.atR])
theorem B3X{P:Program}{b:Frame}{a:Act}{k:List Item}{cs:List Frame}{w:World}{c:Code}:
  step P (lone (b.atR a (.inScope c::k)) cs w)= .next (lone (b.atR a k) cs w):=
 step_lone_go (by simp [Go.stepG,Go.stepG.exec,Frame.atR])
theorem OK.block{id:Nat}{x:AC}(h:OK c (.code x:: .blk id::k) s):OK c (.code (.block id x)::k) s:=by
 intro O ρ a w k' b cs hr hs hd hk
 cases hk with
 | code hc hk=>
  rename_i cd _
  cases cd<;>simp only [N8]at hc<;>try (cases hc;done)
  case block id x=>
   rw [Option.map_eq_some_iff]at hc
   obtain⟨x',hx,hc⟩:=hc
   injection hc with e1 e2
   subst e1;subst e2
   exact(h O ρ a w _ b cs hr hs hd (.code hx (.blk hk))).step (.one stepR_block) (Ext.refl _)
  case scope x=>
   rw [Option.map_eq_some_iff]at hc
   obtain⟨x',hx,hc⟩:=hc
   injection hc with e1 e2
   subst e1;subst e2
   exact(h O ρ a w _ b cs hr hs hd (.code hx (.scp hk))).step (.one B7R) (Ext.refl _)
  case region id ops draw=>split at hc<;>first|(cases hc;done)|(split at hc<;>cases hc)
  case seq x y=>split at hc<;>cases hc
  case cond x y z=>split at hc<;>cases hc
  case loop x=>rw [Option.map_eq_some_iff]at hc;obtain⟨_,_,hc⟩:=hc;cases hc
  case rangeFunc g ps x y=>split at hc<;>first|(cases hc;done)|(split at hc<;>cases hc)
theorem OK.blk{id:Nat}(h:OK c k s):OK c (.blk id::k) s:=by
 intro O ρ a w k' b cs hr hs hd hk
 cases hk with
 |blk hk=>exact(h O ρ a w _ b cs hr hs hd hk).step (.one stepR_inBlock) (Ext.refl _)
 |scp hk=>exact(h O ρ a w _ b cs hr hs hd hk).step (.one B3X) (Ext.refl _)
def W4(id:Nat):List AItem→Option (List AItem)
 | []=>none
 | .blk id'::k=>bif Nat.beq id' id then some k else W4 id k
 | .code _::k=>W4 id k
 | .lp _::k=>W4 id k
 | .beg::k=>W4 id k
theorem B8k{id:Nat}{P:Program}{N:Nat}{k:List AItem}{k':List Item}(hid:Nat.beq A8o id=false)(h:RelL P N k k'): ∀{k2:List AItem},W4 id k=some k2→ ∃k2',exitTo id k'=some k2'∧RelL P N k2 k2':=by
 induction h with
 |nil=>intro k2 h;cases h
 |code _ _ ih=>intro k2 h;exact ih h
 |lp _ _ ih=>intro k2 h;exact ih h
 |beg _ ih=>intro k2 h;exact ih h
 |scp _ ih=>
  intro k2 h
  simp only [W4,hid,cond_false]at h
  exact ih h
 | blk hk ih=>
  rename_i id' k k'
  intro k2 h
  simp only [W4]at h
  cases hb:Nat.beq id' id with
  |true=>
   rw [hb]at h
   injection h with h
   subst h
   have:=Nat.eq_of_beq_eq_true hb
   exact⟨k',by simp [exitTo,this],hk⟩
  | false=>
   rw [hb]at h
   obtain⟨k2',h1,h2⟩:=ih h
   refine⟨k2',?_,h2⟩
   have hne:(id'==id)=false:=by
    cases hq:id'==id with
    |false=>rfl
    |true=>have:=eq_of_beq hq;subst this;rw [Nat.beq_refl]at hb;cases hb
   simp only [exitTo,hne]
   exact h1
theorem OK.exit{id:Nat}{k2:List AItem}(hsc:Nat.beq A8o id=false)(hdr:W4 id k=some k2)(h:OK c k2 s):OK c (.code (.exit id)::k) s:=by
 intro O ρ a w k' b cs hr hs hd hk
 cases hk with
 | code hc hk=>
  rename_i cd _
  cases cd<;>simp only [N8]at hc<;>try (cases hc;done)
  case exit id=>
   injection hc with hc
   injection hc with e1
   subst e1
   obtain⟨k2',h1,h2⟩:=B8k hsc hk hdr
   exact(h O ρ a w _ b cs hr hs hd h2).step (.one (stepR_exit h1)) (Ext.refl _)
  case region id ops draw=>split at hc<;>first|(cases hc;done)|(split at hc<;>cases hc)
  case seq x y=>split at hc<;>cases hc
  case cond x y z=>split at hc<;>cases hc
  case block id x=>rw [Option.map_eq_some_iff]at hc;obtain⟨_,_,hc⟩:=hc;cases hc
  case scope x=>rw [Option.map_eq_some_iff]at hc;obtain⟨_,_,hc⟩:=hc;cases hc
  case loop x=>rw [Option.map_eq_some_iff]at hc;obtain⟨_,_,hc⟩:=hc;cases hc
  case rangeFunc g ps x y=>split at hc<;>first|(cases hc;done)|(split at hc<;>cases hc)
theorem C7k{P:Program}{O:Nat→Prop}{ρ:Nat→Loc}{w:World}{h:A0}{m:Nat}(hr:HeapR w O ρ m h){vx:V}{pv:Value}(hx:R (A5 w O ρ m h) vx pv){t:TypeId}{n:Nat}{agg:Bool}{r:V}(ht:A9D P t=some (n,agg))(h1:A2s h vx n agg=some r):
  ∃ad u,pv= .pointer (some ad)∧(loadVar t ad).run P w= .ok u w∧R (A5 w O ρ m h) r u:=by
 unfold A2s at h1
 split at h1
 ·rename_i b st i j
  split at h1
  ·rename_i sz rs hg
   split at h1
   ·rename_i row hrow
    obtain⟨hsz,hlen,hcell,hrows⟩:=hr.blk _ (A0.mem_of_get hg)
    obtain⟨hl,hR⟩:=hrows i row hrow
    obtain⟨v,hv,hRv⟩:=B0w (P:=P) hR ht h1
    obtain⟨_,hp⟩:=hx.ptr_inv
    have hsz':(ρ st).sz=sz:=hsz
    refine⟨_,v,hp,?_,hRv⟩
    simp only [hsz']
    exact hv
   ·cases h1
  ·cases h1
 ·rename_i es i j
  split at h1
  ·rename_i row hrow
   cases hx with
   |iptr _ _ _ p sz f hp hrowl hcell hR=>
    have hR':A2S (A5 w O ρ m h) p.block (p.off+i*sz) row:=fun j' c hj=>⟨f i j',(hcell i row j' c hrow hj).1,(hcell i row j' c hrow hj).2.1,hR i row j' c hrow hj⟩
    obtain⟨v,hv,hRv⟩:=B0w (P:=P) hR' ht h1
    exact⟨_,v,rfl,hv,hRv⟩
  ·cases h1
 ·cases h1
theorem B5J{P:Program}{bs N:Nat}{O:Nat→Prop}{ρ:Nat→Loc}{a:Act}{w:World}(hr:HeapR w O ρ s.n s.h)(hs:Sim P bs N (A5 w O ρ s.n s.h) s.sl a): ∀(l:List ResultVar) (rs:List RV) (vs:List V),A4x P l=some rs→A6F s rs=some vs→
  ∃us:List Value,(l.mapM (m:=Sem) fun| .tmp t=>pure (a.tmps.getD t Go.undef)| .cell q t=>do loadVar t (←asAddr (a.tmps.getD q Go.undef))).run P w= .ok us w∧RL (A5 w O ρ s.n s.h) vs us.toArray
 | [],rs,vs,h,hv=>by
  simp [A4x]at h;subst h
  simp [A6F]at hv;subst hv
  exact⟨[],rfl,rfl,by simp⟩
 | .tmp t::l,rs,vs,h,hv=>by
  simp only [A4x,Option.map_eq_some_iff]at h
  obtain⟨rs',h1,rfl⟩:=h
  simp only [A6F,Option.map_eq_some_iff]at hv
  obtain⟨vs',h2,rfl⟩:=hv
  obtain⟨us,h3,h4,h5⟩:=B5J hr hs l rs' vs' h1 h2
  refine⟨a.tmps.getD t Go.undef::us,?_,by simpa using h4,fun i c v hc hv=> ?_⟩
  ·rw [List.mapM_cons]
   simp only [Sem.run_bind,Sem.run_pure,Result.andThen_ok,h3]
  ·cases i with
   |zero=>
    injection hc with hc
    simp only [List.getElem?_toArray,List.getElem?_cons_zero,Option.some.injEq]at hv
    subst hc;subst hv;exact hs.slot t
   |succ i=>exact h5 i c v (by simpa using hc) (by simpa using hv)
 | .cell q t::l,rs,vs,h,hv=>by
  simp only [A4x]at h
  split at h
  ·rename_i n ag rs' ht h1
   injection h with h
   subst h
   simp only [A6F]at hv
   split at hv
   ·rename_i v vs' hl h2
    injection hv with hv
    subst hv
    obtain⟨us,h3,h4,h5⟩:=B5J hr hs l rs' vs' h1 h2
    have key:=C7k hr (hs.slot q) ht hl
    obtain⟨ad,u,e1,e2,e3⟩:=key
    refine⟨u::us,?_,by simpa using h4,fun i c v' hc hv=> ?_⟩
    ·have e4:(do loadVar t (←asAddr (a.tmps.getD q Go.undef)):Sem Value).run P w= .ok u w:=by
      rw [e1];simp [asAddr,e2]
     rw [List.mapM_cons,Sem.run_bind]
     show ((do loadVar t (←asAddr (a.tmps.getD q Go.undef)):Sem Value).run P w).andThen _=_
     rw [e4,Result.andThen_ok,Sem.run_bind,h3]
     rfl
    ·cases i with
     |zero=>simp at hc hv;subst hc;subst hv;exact e3
     |succ i=>exact h5 i c v' (by simpa using hc) (by simpa using hv)
   ·cases hv
  ·cases h
theorem B7v{fn:Func}{P:Program}{bs N:Nat}{O:Nat→Prop}{ρ:Nat→Loc}{a:Act}{w:World}{rs:List RV}{vs:List V}(hr:HeapR w O ρ s.n s.h)(hs:Sim P bs N (A5 w O ρ s.n s.h) s.sl a)(h:A4x P fn.results.toList=some rs)(hv:A6F s rs=some vs):
  ∃v,(results fn a.tmps).run P w= .ok v w∧R (A5 w O ρ s.n s.h) (B0i vs) v:=by
 obtain⟨us,h1,h2⟩:=B5J hr hs _ rs vs h hv
 have hm:(fn.results.mapM (m:=Sem) fun| .tmp t=>pure (a.tmps.getD t Go.undef)| .cell q t=>do loadVar t (←asAddr (a.tmps.getD q Go.undef))).run P w= .ok us.toArray w:=by
  rw [Array.mapM_eq_mapM_toList]
  simp only [Sem.run_map]
  rw [h1];rfl
 have hres:(results fn a.tmps).run P w=(Result.ok us.toArray w).andThen fun vs w'=>(pure (if h:vs.size=1 then vs[0]else .tuple vs):Sem Value).run P w':=by
  unfold results
  rw [Sem.run_bind]
  exact congrArg (fun r=>Result.andThen r _) hm
 rw [hres,Result.andThen_ok]
 by_cases h1':us.length=1
 ·obtain⟨u,rfl⟩:=List.length_eq_one_iff.1 h1'
  have hl:=h2.1
  obtain⟨x,rfl⟩:=List.length_eq_one_iff.1 (by simpa using hl:vs.length=1)
  exact⟨u,rfl,h2.2 0 x u rfl rfl⟩
 ·have hne: ¬us.toArray.size=1:=by simpa using h1'
  refine⟨.tuple us.toArray,by rw [dif_neg hne];rfl,?_⟩
  have:B0i vs= .tup vs:=by
   unfold B0i
   split
   ·rename_i v
    have:=h2.1
    simp at this
    exact(h1' this.symm).elim
   ·rfl
  rw [this]
  exact .tup _ _ h2.1 h2.2
theorem OK.ret{rs:List RV}(hrd:c.rd=none)(hrs:A4x c.P c.fn.results.toList=some rs)(h:C4I c rs s):OK c (.code .ret::k) s:=by
 intro O ρ a w k' b cs hr hs hd hk
 unfold B4X
 rw [hrd]at hd⊢
 cases hk with
 |code hc hk=>
  rename_i cd _
  cases cd<;>simp only [N8]at hc<;>try (cases hc;done)
  case ret=>exact⟨_,a,w,ρ,s,rs,.one (stepR_ret hd),hr,hs,Ext.refl _,hrs,h⟩
  all_goals first|(split at hc<;>first|(cases hc;done)|(split at hc<;>cases hc))|(rw [Option.map_eq_some_iff]at hc;obtain⟨_,_,hc⟩:=hc;cases hc)
theorem OK.nil{rs:List RV}(hrd:c.rd=none)(hrs:A4x c.P c.fn.results.toList=some rs)(h:C4I c rs s):OK c [] s:=by
 intro O ρ a w k' b cs hr hs hd hk
 unfold B4X
 rw [hrd]at hd⊢
 cases hk with
 |nil=>exact⟨_,a,w,ρ,s,rs,.one (stepR_end hd),hr,hs,Ext.refl _,hrs,h⟩
theorem A9T{P:Program}{B N:Nat}{ops:Array Oper}: ∀{l:List Oper} {is:List AI},A7g P B N ops l=some is→is.length=l.length∧ ∀(q:Nat) o,l[q]? =some o→ ∃i,is[q]? =some i∧B6q P B N ops o=some i
 | [],is,h=>by simp [A7g]at h;subst h;simp
 | o::r,is,h=>by
  simp only [A7g]at h
  split at h
  ·rename_i i is' h1 h2
   injection h with h
   subst h
   obtain⟨h3,h4⟩:=A9T h2
   refine⟨by simp [h3],fun q o' hq=> ?_⟩
   cases q with
   |zero=>simp at hq;subst hq;exact⟨i,rfl,h1⟩
   |succ q=>simpa using h4 q o' (by simpa using hq)
  ·cases h
theorem B9r{a:Nat}{l:List Nat}:l.any (Nat.beq a)=true↔a∈l:=by
 rw [List.any_eq_true]
 constructor
 ·rintro⟨x,hx,h⟩;rw [Nat.eq_of_beq_eq_true h];exact hx
 ·intro h;exact⟨a,h,Nat.beq_refl a⟩
theorem B1M: ∀{l:List Nat},B5z l=true→l.Nodup
 | [],_=> .nil
 |a::r,h=>by
  simp only [B5z,Bool.and_eq_true,Bool.not_eq_true']at h
  refine List.nodup_cons.2 ⟨fun hm=> ?_,B1M h.2⟩
  rw [B9r.2 hm]at h
  cases h.1
theorem B1Z{n:Nat}{T:List Nat}(h:B3M n T=true):T.Nodup∧T.Perm (List.range n):=by
 unfold B3M at h
 simp only [Bool.and_eq_true,List.all_eq_true]at h
 obtain⟨h1,h2,h3⟩:=h
 have hn:=B1M h1
 exact⟨hn,A9k _ _ hn (fun x hx=>List.mem_range.2 (Nat.le_of_ble_eq_true (h3 x hx))) (by rw [Nat.eq_of_beq_eq_true h2];simp)⟩
theorem B4m: ∀{a b:List Nat},C2s a b=true→a=b
 | [],[],_=>rfl
 |x::r,y::s,h=>by
  simp only [C2s,Bool.and_eq_true]at h
  rw [Nat.eq_of_beq_eq_true h.1,B4m h.2]
 | [],_::_,h=>by cases h
 |_::_,[],h=>by cases h
theorem B0n{ok:AI→AI→Bool}{f:Nat→AI}{anc:Nat→Nat→Bool}: ∀{l:List Nat},B0m ok f anc l=true→l.Pairwise fun a i=>ok (f a) (f i)=true∨anc a i=true
 | [],_=> .nil
 |a::r,h=>by
  simp only [B0m,Bool.and_eq_true,List.all_eq_true,Bool.or_eq_true]at h
  exact .cons (fun i hi=>h.1 i hi) (B0n h.2)
theorem A7q{P:Program}{ok:AI→AI→Bool}{new:Nat→Bool}(hok: ∀a i,ok a i=true→ok2 a i=true){f:Nat→AI}{m:Region.Mode}{ops:Array Oper}{Ts:List (List Nat)}{K:St→Prop}{s:St}(hK:A4j K)(hc:S8 ok new f m ops=some Ts)(hk: ∀T∈Ts,A4k P (T.map f) s K)(t:Nat):
  (Region.linearise m ops t).Perm (List.range ops.size)∧VF P ((Region.linearise m ops t).map f) s K:=by
 unfold S8 at hc
 simp only at hc
 split at hc
 ·rename_i hcond
  injection hc with hc
  subst hc
  simp only [Bool.and_eq_true]at hcond
  obtain⟨⟨c1,c2⟩,_,c4,c5⟩:=hcond
  generalize A9Q m ops [] _ _ _ _ _=T0 at*
  obtain⟨n1,n2⟩:=B1Z c1
  obtain⟨p1,p2⟩:=B3b (m:=m) (ops:=ops) (T:=T0.reverse) (A2y c2) (fun i hi=>List.mem_reverse.2 (n2.mem_iff.2 (List.mem_range.2 hi))) (fun i hi=>List.mem_range.1 (n2.mem_iff.1 (List.mem_reverse.1 hi))) t
  refine⟨p1,?_⟩
  generalize hL:Region.linearise m ops t=L at*
  generalize hC:B0U _ _ _ _=C at hk c4 c5
  have hnl:L.Nodup:=p1.symm.nodup List.nodup_range
  have hpos:=B0p hnl
  have hmem: ∀i,i∈L↔i<ops.size:=fun i=>by rw [p1.mem_iff];simp
  have hC': ∀p∈C,p.1<ops.size∧p.2<ops.size∧p.1≠p.2:=fun p hp=>by
   rw [List.all_eq_true]at c4
   have:=c4 p hp
   simp only [Bool.and_eq_true]at this
   refine⟨Nat.le_of_ble_eq_true this.1.1,Nat.le_of_ble_eq_true this.1.2,fun e=> ?_⟩
   have h3:=this.2
   rw [e,Nat.beq_refl]at h3
   cases h3
  generalize hE:C.map (A7y L)=E
  have hElt: ∀p∈E,pos p.1 L<pos p.2 L∧p.1<ops.size∧p.2<ops.size:=by
   intro p hp
   rw [←hE,List.mem_map]at hp
   obtain⟨q,hq,rfl⟩:=hp
   obtain⟨h1,h2,h3⟩:=hC' q hq
   refine⟨C0Y (C2Y ((hmem _).2 h1) h3 hnl),?_⟩
   unfold A7y
   cases Nat.blt _ _<;>exact⟨by assumption,by assumption⟩
  have later: ∀x y,x<ops.size→y<ops.size→pos x L<pos y L→ ¬Anc m ops y x:=by
   intro x y hx hy hlt
   have hboth:=hpos.and p2
   obtain⟨l1,l2,hl⟩:=List.append_of_mem ((hmem x).2 hx)
   have hy':=(hmem y).2 hy
   rw [hl]at hy'
   rw [hl]at hboth
   rcases List.mem_append.1 hy' with h|h
   ·have:=((List.pairwise_append.1 hboth).2.2 y h x (by simp)).1
    rw [←hl]at this
    omega
   ·rcases List.mem_cons.1 h with rfl|h
    ·omega
    ·exact((List.pairwise_cons.1 (List.pairwise_append.1 hboth).2.1).1 y h).2
  have hcyc:B2I (B7W (B0e m ops [] T0 [])) E=false:=by
   cases hb:B2I (B7W (B0e m ops [] T0 [])) E with
   |false=>rfl
   | true=>
    unfold B2I at hb
    rw [List.any_eq_true]at hb
    obtain⟨p,hp,hb⟩:=hb
    rw [List.any_eq_true]at hb
    obtain⟨q,hq,hb⟩:=hb
    rw [Bool.and_eq_true]at hb
    have e:=Nat.eq_of_beq_eq_true hb.1
    obtain⟨a1,a2,a3⟩:=hElt p hp
    obtain⟨b1,b2,b3⟩:=hElt q hq
    rw [←e]at b1
    rcases Bool.or_eq_true _ _ ▸ hb.2 with h|h
    ·exact(later p.1 q.2 a2 b3 (by omega) (A8V h).anc).elim
    ·rw [List.any_eq_true]at h
     obtain⟨r,hr,h⟩:=h
     rw [Bool.and_eq_true]at h
     have e2:=Nat.eq_of_beq_eq_true h.1
     obtain⟨d1,d2,d3⟩:=hElt r hr
     rw [←e2]at d1
     rcases Bool.or_eq_true _ _ ▸ h.2 with g|g
     ·have e3:=Nat.eq_of_beq_eq_true g
      rw [e3]at d1
      omega
     ·exact(later p.1 r.2 a2 d3 (by omega) (A8V g).anc).elim
  have hEm:E∈(A5Q C).filter fun E=> !B2I (B7W (B0e m ops [] T0 [])) E:=by
   rw [List.mem_filter]
   exact⟨by rw [←hE];exact A7z _ C,by rw [hcyc];rfl⟩
  generalize hT:A9Q m ops E new (fun i=>Nat.ble (cls (f i).o) 1) ops.size (List.range ops.size) []=T
  have hc5:B3M ops.size T=true∧B0m ok f (B7W (B0e m ops E T [])) T=true:=by
   rw [List.all_eq_true]at c5
   have:=c5 (E,T) (by
    rw [List.zip_map_right,List.mem_map]
    refine⟨(E,E),?_,by simp only [Prod.map];rw [←hT];rfl⟩
    have hz: ∀(l:List (List (Nat×Nat))) x,x∈l→(x,x)∈l.zip l:=by
     intro l x hx
     induction l with
     |nil=>cases hx
     |cons y r ih=>
      rw [List.zip_cons_cons]
      rcases List.mem_cons.1 hx with rfl|hx
      ·simp
      ·exact List.mem_cons_of_mem _ (ih hx)
    exact hz _ E hEm)
   simpa only [Bool.and_eq_true]using this
  obtain⟨d1,d4⟩:=hc5
  obtain⟨hnT,hTr⟩:=B1Z d1
  have hk:=hk T (by
   rw [List.mem_map]
   exact⟨E,hEm,hT⟩)
  have hpair:=(B0n d4).imp (S:=fun a i=>ok2 (f a) (f i)=true∨AncE m ops E a i) (fun h=>h.imp (hok _ _) A8V)
  have hmono: ∀a i,AncE m ops E a i→i<ops.size→a<ops.size∧pos a L<pos i L:=by
   have one: ∀a i,B2w m ops a i∨(a,i)∈E→i<ops.size→a<ops.size∧pos a L<pos i L:=by
    intro a i h hi
    rcases h with h|h
    ·have ha:a<ops.size:=by
      have hb:F8 m ops T0.reverse:=A2y c2
      obtain⟨t1,t2,ht⟩:=List.append_of_mem (List.mem_reverse.2 (n2.mem_iff.2 (List.mem_range.2 hi)))
      rw [ht]at hb
      have h3:=(F8.tail hb).1 a h
      have h4:a∈T0.reverse:=by rw [ht];simp [h3]
      exact List.mem_range.1 (n2.mem_iff.1 (List.mem_reverse.1 h4))
     refine⟨ha,?_⟩
     have hanc:Anc m ops a i:= .one h
     rcases Nat.lt_trichotomy (pos a L) (pos i L)with h1|h1|h1
     ·exact h1
     ·exfalso
      have:a=i:=by
       by_cases e:a=i
       ·exact e
       ·exact(C2Y ((hmem a).2 ha) e hnl h1).elim
      subst this
      have hb:F8 m ops T0.reverse:=A2y c2
      obtain⟨t1,t2,ht⟩:=List.append_of_mem (List.mem_reverse.2 (n2.mem_iff.2 (List.mem_range.2 hi)))
      rw [ht]at hb
      have h3:=(F8.tail hb).1 a h
      have hnr:T0.reverse.Nodup:=(List.reverse_perm T0).symm.nodup n1
      rw [ht]at hnr
      exact(List.nodup_cons.1 (List.nodup_append.1 hnr).2.1).1 h3
     ·exact(later i a hi ha h1 hanc).elim
    ·exact⟨(hElt _ h).2.1,(hElt _ h).1⟩
   intro a i h
   induction h with
   |one h=>exact one _ _ h
   |more h _ ih=>
    intro hi
    obtain⟨h1,h2⟩:=one _ _ h hi
    obtain⟨h3,h4⟩:=ih h1
    exact⟨h3,Nat.lt_trans h4 h2⟩
  have hl':L.Pairwise fun i a=> ¬AncE m ops E a i:=hpos.imp_of_mem fun hi ha hlt h=>by
   have:=(hmono _ _ h ((hmem _).1 hi)).2
   omega
  exact B9W f (AncE m ops E) hK L T s hnT (p1.trans hTr.symm) hpair hl' hk
 ·cases hc
theorem A9j{P:Program}{f:Nat→AI}{m:Region.Mode}{ops:Array Oper}{Ts:List (List Nat)}{K:St→Prop}{s:St}(hK:A4j K)(hc:A3f f m ops=some Ts)(hk: ∀T∈Ts,A4k P (T.map f) s K)(t:Nat):
  (Region.linearise m ops t).Perm (List.range ops.size)∧VF P ((Region.linearise m ops t).map f) s K:=by
 unfold A3f at hc
 cases h1:S8 A7r (fun _=>false) f m ops with
 | some Us=>
  have first:Us=Ts→(Region.linearise m ops t).Perm (List.range ops.size)∧VF P ((Region.linearise m ops t).map f) s K:=fun e=>by
   subst e
   exact A7q (fun a i h=>by unfold ok2;rw [h];rfl) hK h1 hk t
  rw [h1]at hc
  simp only at hc
  cases hb:Nat.ble Us.length 16 with
  |true=>rw [hb]at hc;injection hc with hc;exact first hc
  | false=>
   rw [hb]at hc
   cases h2:S8 ok2 (fun i=>B6N (f i)) f m ops with
   |none=>rw [h2]at hc;injection hc with hc;exact first hc
   |some Vs=>
    rw [h2]at hc
    injection hc with hc
    subst hc
    exact A7q (fun a i h=>h) hK h2 hk t
 |none=>
  rw [h1]at hc
  exact A7q (fun a i h=>h) hK hc hk t
theorem B5H{P:Program}{B N:Nat}{ops:Array Oper}{draw:Bool}{iss:List (List AI)}{id:Nat}{K:St→Prop}(hK:A4j K)(hc:A8Y P B N ops draw=some iss)(hk: ∀is∈iss,A4k P is s K)
  {bs:Nat} {O:Nat→Prop} {ρ:Nat→Loc} {a:Act} {w:World} (hr:HeapR w O ρ s.n s.h) (hs:Sim P bs N (A5 w O ρ s.n s.h) s.sl a) (b:Frame) (k':List Item) (cs:List Frame):
  ∃ρ' s' a' w',HeapR w' O ρ' s'.n s'.h∧Sim P bs N (A5 w' O ρ' s'.n s'.h) s'.sl a'∧Ext (A5 w O ρ s.n s.h) (A5 w' O ρ' s'.n s'.h)∧K s'∧Steps P (lone (b.atR a (.code (.region id ops draw)::k')) cs w) (lone (b.atR a' k') cs w'):=by
 unfold A8Y at hc
 split at hc
 ·cases hc
 ·rename_i js hjs
  obtain⟨hlen,hget⟩:=A9T hjs
  let Q:Exit→Act→World→Prop:=fun e a' w'=>e= .normal∧ ∃ρ' s',HeapR w' O ρ' s'.n s'.h∧Sim P bs N (A5 w' O ρ' s'.n s'.h) s'.sl a'∧Ext (A5 w O ρ s.n s.h) (A5 w' O ρ' s'.n s'.h)∧K s'
  have close: ∀m,(∃e a' w',Q e a' w'∧ArrivesIn (Machine.fenced P (Fr b.roundOf)) P m b k' cs e a' w')→Steps P (lone (b.atR a (.code (.region id ops draw)::k')) cs w) m→ ∃ρ' s' a' w',HeapR w' O ρ' s'.n s'.h∧Sim P bs N (A5 w' O ρ' s'.n s'.h) s'.sl a'∧Ext (A5 w O ρ s.n s.h) (A5 w' O ρ' s'.n s'.h)∧K s'∧Steps P (lone (b.atR a (.code (.region id ops draw)::k')) cs w) (lone (b.atR a' k') cs w'):=by
   rintro m ⟨e,a',w',⟨rfl,ρ',s',q1,q2,q3,q4⟩,harr⟩ hst
   exact⟨ρ',s',a',w',q1,q2,q3,q4,hst.trans (StepsIn.steps harr)⟩
  cases draw with
  | false=>
   simp only [Bool.false_eq_true,if_false]at hc
   injection hc with hc
   subst hc
   have hk:=hk js (by simp)
   have hl:(List.range ops.size).length=js.length:=by rw [hlen];simp
   have hops:=B1j (Q:=Q) (ro:=b.roundOf) (ops:=ops) (P:=P) (N:=N) (List.range ops.size) js a w ρ s K hl.symm (fun q j hq=>by
    have hqn:q<ops.size:=by have:=(List.getElem?_eq_some_iff.1 hq).1;simpa using this
    have hj:j=q:=by have:=(List.getElem?_eq_some_iff.1 hq).2;simpa using this.symm
    subst hj
    obtain⟨i,h1,h2⟩:=hget j ops[j] (by simp [hqn])
    exact⟨ops[j],i,by simp [hqn],h1,h2⟩) hr hs hk.vf fun ρ' s' a' w' h1 h2 h3 h4=>⟨rfl,ρ',s',h1,h2,h3,h4⟩
   exact close _ (wp_opsIn _ a w hops b k' cs rfl trivial (room_wide _)) (.one stepR_region)
  | true=>
   simp only [if_true]at hc
   let f:=fun i=>js.getD i default
   generalize ht:w.tape w.drawn (.order b.fn id)=t
   have fin: ∀L:List Nat,Region.schedule (P.follows .mixedOrders) ops t=L→L.Perm (List.range ops.size)→VF P (L.map f) s K→
     ∃ρ' s' a' w',HeapR w' O ρ' s'.n s'.h∧Sim P bs N (A5 w' O ρ' s'.n s'.h) s'.sl a'∧Ext (A5 w O ρ s.n s.h) (A5 w' O ρ' s'.n s'.h)∧K s'∧Steps P (lone (b.atR a (.code (.region id ops true)::k')) cs w) (lone (b.atR a' k') cs w'):=by
    intro L hL p1 hk'
    obtain⟨hr2,hx2⟩:=hr.drew
    have hops:=B1j (Q:=Q) (ro:=b.roundOf) (ops:=ops) (P:=P) (N:=N) L (L.map f) a w.drew ρ s K (by simp) (fun q j hq=>by
     have hj:j<ops.size:=by simpa using p1.subset (List.mem_of_getElem? hq)
     obtain⟨i,h1,h2⟩:=hget j ops[j] (by simp [hj])
     refine⟨ops[j],i,by simp [hj],?_,h2⟩
     rw [List.getElem?_map,hq]
     simp [f,List.getD_eq_getElem?_getD,h1]) hr2 (hs.mono hx2) hk' fun ρ' s' a' w' h1 h2 h3 h4=>⟨rfl,ρ',s',h1,h2,hx2.trans h3,h4⟩
    refine close _ (wp_opsIn _ a w.drew hops b k' cs rfl trivial (room_wide _)) (.one ?_)
    rw [stepR_region_draw,ht,hL]
    rfl
   split at hc
   ·rename_i hcond
    rw [Option.map_eq_some_iff]at hc
    obtain⟨Ts,hTs,rfl⟩:=hc
    obtain⟨p1,p2⟩:=A9j (P:=P) (s:=s) hK hTs (fun T hT=>hk _ (List.mem_map.2 ⟨T,hT,rfl⟩)) t
    exact fin _ (by unfold Region.schedule;rw [if_pos hcond]) p1 p2
   ·rename_i hcond
    split at hc
    ·rename_i Ts Us hTs hUs
     injection hc with hc
     subst hc
     have kT: ∀T∈Ts,A4k P (T.map f) s K:=fun T hT=>hk _ (List.mem_map.2 ⟨T,List.mem_append.2 (.inl hT),rfl⟩)
     have kU: ∀U∈Us,A4k P (U.map f) s K:=fun U hU=>by
      cases hb:Ts.any (C2s U)with
      |false=>exact hk _ (List.mem_map.2 ⟨U,List.mem_append.2 (.inr (List.mem_filter.2 ⟨hU,by rw [hb];rfl⟩)),rfl⟩)
      |true=>
       rw [List.any_eq_true]at hb
       obtain⟨T,hT,he⟩:=hb
       rw [B4m he]
       exact kT T hT
     by_cases h2:(t%2==0)=true
     ·obtain⟨p1,p2⟩:=A9j (P:=P) (s:=s) hK hTs kT (t/2)
      exact fin _ (by unfold Region.schedule;rw [if_neg hcond,if_pos h2]) p1 p2
     ·obtain⟨p1,p2⟩:=A9j (P:=P) (s:=s) hK hUs kU (t/2)
      exact fin _ (by unfold Region.schedule;rw [if_neg hcond,if_neg h2]) p1 p2
    ·cases hc
theorem OK.ops{iss:List (List AI)}(h: ∀is∈iss,A4k c.P is s (OK c k)):OK c (.code (.ops iss)::k) s:=by
 intro O ρ a w k' b cs hr hs hd hk
 cases hk with
 | code hc hk=>
  rename_i cd _
  cases cd<;>simp only [N8]at hc<;>try (cases hc;done)
  case region id ops draw=>
   split at hc
   ·cases hc
   split at hc
   ·rename_i iss' h1
    injection hc with hc
    injection hc with hc
    subst hc
    obtain⟨ρ',s',a',w',q1,q2,q3,q4,q5⟩:=B5H (id:=id) OK.resp h1 h hr hs b _ cs
    exact(q4 O ρ' a' w' _ b cs q1 q2 (hd.mono q3.n q3.ρ) hk).step q5 q3
   ·cases hc
  case seq x y=>split at hc<;>cases hc
  case cond x y z=>split at hc<;>cases hc
  case block id x=>rw [Option.map_eq_some_iff]at hc;obtain⟨_,_,hc⟩:=hc;cases hc
  case scope x=>rw [Option.map_eq_some_iff]at hc;obtain⟨_,_,hc⟩:=hc;cases hc
  case loop x=>rw [Option.map_eq_some_iff]at hc;obtain⟨_,_,hc⟩:=hc;cases hc
  case rangeFunc g ps x y=>split at hc<;>first|(cases hc;done)|(split at hc<;>cases hc)
theorem C2V{P:Program}{ops:Array Oper}{Q:Exit→Act→World→Prop}{i:Nat}{rest:List Nat}{a:Act}{w:World}{o:Oper}{v:Value}(ho:ops[i]? =some o)(hg:o.guard=none)(hr:(execOp a.eval o).run P w= .ok (.value v) w)
  (h:wpOpsIn (Fr none) 0 P ops Q rest (a.put o.dst v) w):wpOpsIn (Fr none) 0 P ops Q (i::rest) a w:=by
 simp only [wpOpsIn,ho,A2O hg,if_true]
 refine⟨fun _ _=>trivial,?_⟩
 rw [show (Fr none).round=none from rfl,Oper.semAt_none,hr]
 exact h
theorem B8N{P:Program}{ops:Array Oper}{Q:Exit→Act→World→Prop}{i:Nat}{rest:List Nat}{a:Act}{w:World}{o:Oper}{d:Deferred}(ho:ops[i]? =some o)(hg:o.guard=none)(hr:(execOp a.eval o).run P w= .ok (.defer d) w)
  (h:wpOpsIn (Fr none) 0 P ops Q rest ({a with defers:=d::a.defers}.put o.dst Go.undef) w):wpOpsIn (Fr none) 0 P ops Q (i::rest) a w:=by
 simp only [wpOpsIn,ho,A2O hg,if_true]
 refine⟨fun _ _=>trivial,?_⟩
 rw [show (Fr none).round=none from rfl,Oper.semAt_none,hr]
 exact h
theorem C0v{P:Program}{bs N:Nat}{E:Env}{s:St}{ops:Array Oper}{draw:Bool}{d id:Nat}{a:Act}{w:World}(hc:B5f P N ops draw=some d)(hs:Sim P bs N E s.sl a)(b:Frame)(hb:b.roundOf=none)(k':List Item)(cs:List Frame):
  ∃a',Sim P bs N E (E8 s.sl d .undef) a'∧Steps P (lone (b.atR a (.code (.region id ops draw)::k')) cs w) (lone (b.atR a' k') cs w):=by
 unfold B5f at hc
 split at hc
 ·rename_i o0 o1 hl
  have e0:ops= #[o0,o1]:=Array.ext' hl
  subst e0
  split at hc
  ·rename_i f first caps q d' p0 p1 p2
   cases hb2:first.isEmpty&&(B1A o0 d'&&((match q.callee with| .value (.tmp i)=>Nat.beq i d'|_=>false)&&(o1.dst.isNone&&(o1.guard.isNone&&(q.args.isEmpty&&(Nat.blt d' N&&(J8 P f&&B5B P f)))))))with
   |false=>rw [hb2]at hc;cases hc
   | true=>
    rw [hb2]at hc
    injection hc with hc
    subst hc
    simp only [Bool.and_eq_true]at hb2
    obtain⟨h1,h2,h3,h4,h5,h6,h7,h8,h9⟩:=hb2
    obtain⟨d0,g0⟩:=A4y h2
    have h7:=Nat.le_of_ble_eq_true h7
    have hf0:first= #[]:=by simpa using h1
    subst hf0
    have hd1:o1.dst=none:=by simpa using h4
    have hg1:o1.guard=none:=by simpa using h5
    obtain⟨qc,qa,qt⟩:=q
    have hqa:qa= #[]:=by simpa using h6
    subst hqa
    have hqc:qc= .value (.tmp d'):=by
     simp only at h3
     split at h3
     ·rw [Nat.eq_of_beq_eq_true h3]
     ·cases h3
    subst hqc
    have r0:(execOp a.eval o0).run P w= .ok (.value (.func (.func f) #[] (caps.map a.eval))) w:=by simp [execOp,p0,Instr.makeFunc]
    have r1: ∀η:Operand→Value,η (.tmp d')= .func (.func f) #[] (caps.map a.eval)→(execOp η o1).run P w= .ok (.defer {target:= .fn (.func f) (caps.map a.eval),args:= #[]}) w:=fun η h=>by simp [execOp,p1,resolve,Deferred.ofValue,h]
    have hq:B5b P {target:= .fn (.func f) (caps.map a.eval),args:= #[]}:=⟨.func f,caps.map a.eval,f, #[]++caps.map a.eval,rfl,fun w=>by simp [invoke,A2C h8],fun w=>C3a h9 _ w⟩
    generalize hfv:(Value.func (.func f) #[] (caps.map a.eval))=fv at*
    generalize ({target:= .fn (.func f) (caps.map a.eval),args:= #[]}:Deferred)=dd at*
    have hs1:=hs.set (d:=d') (v:= .undef) (x:=fv) h7 (.undef _)
    have hs2:Sim P bs N E (E8 s.sl d' .undef) {a.put (some d') fv with defers:=dd::a.defers}:=⟨hs1.size,hs1.base,hs1.defers.push hq,hs1.slot⟩
    refine⟨_,hs2,?_⟩
    have hops:wpOpsIn (Fr none) 0 P #[o0,o1] (fun e a' w'=>e= .normal∧a'={a.put (some d') fv with defers:=dd::a.defers}∧w'=w) [0,1] a w:=by
     refine C2V (o:=o0) rfl g0 r0 ?_
     rw [d0]
     refine B8N (o:=o1) rfl hg1 (r1 _ (A7j (by rw [hs.size];exact h7))) ?_
     rw [hd1]
     exact⟨rfl,rfl,rfl⟩
    obtain⟨e,a',w',⟨rfl,rfl,rfl⟩,harr⟩:=wp_opsIn _ a w hops b k' cs hb trivial (room_wide _)
    exact(Steps.one stepR_region).trans (StepsIn.steps harr)
  ·cases hc
 ·cases hc
theorem OK.dfr{d:Nat}(hrd:c.rd=none)(h:OK c k ⟨E8 s.sl d .undef,s.h,s.n⟩):OK c (.code (.dfr d)::k) s:=by
 intro O ρ a w k' b cs hr hs hd hk
 cases hk with
 | code hc hk=>
  rename_i cd _
  cases cd<;>simp only [N8]at hc<;>try (cases hc;done)
  case region id ops draw=>
   split at hc
   ·rename_i d' h1
    injection hc with hc
    injection hc with hc
    subst hc
    have hb:b.roundOf=none:=by
     unfold C0f at hd
     rw [hrd]at hd
     exact hd
    obtain⟨a',hs',hst⟩:=C0v (id:=id) (w:=w) h1 hs b hb _ cs
    exact(h O ρ a' w _ b cs hr hs' hd hk).step hst (Ext.refl _)
   ·split at hc<;>cases hc
  case seq x y=>split at hc<;>cases hc
  case cond x y z=>split at hc<;>cases hc
  case block id x=>rw [Option.map_eq_some_iff]at hc;obtain⟨_,_,hc⟩:=hc;cases hc
  case scope x=>rw [Option.map_eq_some_iff]at hc;obtain⟨_,_,hc⟩:=hc;cases hc
  case loop x=>rw [Option.map_eq_some_iff]at hc;obtain⟨_,_,hc⟩:=hc;cases hc
  case rangeFunc g ps x y=>split at hc<;>first|(cases hc;done)|(split at hc<;>cases hc)
theorem OK.lp{x:AC}(h:OK c (.code x:: .lp x::k) s):OK c (.lp x::k) s:=by
 intro O ρ a w k' b cs hr hs hd hk
 cases hk with
 |lp hc hk=>exact(h O ρ a w _ b cs hr hs hd (.code hc (.lp hc hk))).step (.one stepR_inLoop) (Ext.refl _)
theorem OK.loop{x:AC}(h:OK c (.code x:: .lp x::k) s):OK c (.code (.loop x)::k) s:=by
 intro O ρ a w k' b cs hr hs hd hk
 cases hk with
 | code hc hk=>
  rename_i cd _
  cases cd<;>simp only [N8]at hc<;>try (cases hc;done)
  case loop x=>
   rw [Option.map_eq_some_iff]at hc
   obtain⟨x',hx,hc⟩:=hc
   injection hc with e1
   subst e1
   exact(h O ρ a w _ b cs hr hs hd (.code hx (.lp hx hk))).step (.one stepR_loop) (Ext.refl _)
  case region id ops draw=>split at hc<;>first|(cases hc;done)|(split at hc<;>cases hc)
  case seq x y=>split at hc<;>cases hc
  case cond x y z=>split at hc<;>cases hc
  case block id x=>rw [Option.map_eq_some_iff]at hc;obtain⟨_,_,hc⟩:=hc;cases hc
  case scope x=>rw [Option.map_eq_some_iff]at hc;obtain⟨_,_,hc⟩:=hc;cases hc
  case rangeFunc g ps x y=>split at hc<;>first|(cases hc;done)|(split at hc<;>cases hc)
def B6(s s':St):Prop:=(∀p∈s'.sl,p.2=C3 s.sl p.1)∧(∀e∈s'.h,e∈s.h)∧s.n≤s'.n
theorem B2s{sl:List (Nat×V)}(i:Nat):C3 sl i= .undef∨(i,C3 sl i)∈sl:=by
 induction sl with
 |nil=>exact .inl rfl
 |cons p r ih=>
  simp only [C3]
  cases hb:Nat.beq p.1 i with
  |true=>have:=Nat.eq_of_beq_eq_true hb;subst this;exact .inr (by simp)
  |false=>exact ih.imp id fun h=>by simp [h]
theorem HeapR.up{w:World}{O:Nat→Prop}{ρ:Nat→Loc}{n n':Nat}{h:A0}(hr:HeapR w O ρ n h)(hn:n≤n'):HeapR w O ρ n' h∧Ext (A5 w O ρ n h) (A5 w O ρ n' h):=by
 have hx:Ext (A5 w O ρ n h) (A5 w O ρ n' h):=⟨rfl,hn,fun _ _=>rfl,Wd.refl _,fun _ _ h=>⟨rfl,h⟩⟩
 exact⟨⟨fun e he=>Nat.lt_of_lt_of_le (hr.lt e he) hn,hr.inj,hr.out,hr.notO,fun e he=>(hr.blk e he).mono hx (hr.lt e he) fun _=>rfl,hr.gl.mono hx.imm⟩,hx⟩
theorem OK.weak{s':St}(hw:B6 s s')(h:OK c k s'):OK c k s:=by
 intro O ρ a w k' b cs hr hs hd hk
 obtain⟨h1,h2,h3⟩:=hw
 obtain⟨hr1,hx1⟩:=hr.drop h2
 obtain⟨hr2,hx2⟩:=hr1.up h3
 have hx:=hx1.trans hx2
 refine(h O ρ a w k' b cs hr2 ⟨hs.size,hs.base,hs.defers.mono hx,fun i=> ?_⟩ (hd.mono hx.n hx.ρ) hk).step (Steps.refl _ _) hx
 rcases B2s (sl:=s'.sl) i with hu|hm
 ·rw [hu];exact .undef _
 ·have:=h1 _ hm
  simp only at this
  rw [this]
  exact(hs.slot i).mono hx
theorem OK.rounds{α:Type}{x:AC}(S:α→St)(J:α→Prop)(μ:α→Nat)(x0:α)(hw:B6 s (S x0))(h0:J x0)
  (round: ∀y,J y→(∀s z,J z→μ z<μ y→B6 s (S z)→OK c (.lp x::k) s)→OK c (.code x:: .lp x::k) (S y)):OK c (.code (.loop x)::k) s:=by
 have key: ∀m y,μ y=m→J y→OK c (.code x:: .lp x::k) (S y):=by
  intro m
  induction m using Nat.strongRecOn with
  |_ m ih=>
   intro y hm hJ
   exact round y hJ fun s z hz hlt hw=>OK.weak hw (OK.lp (ih (μ z) (hm ▸ hlt) z rfl hz))
 exact OK.loop (OK.weak hw (key _ x0 rfl h0))
theorem HeapR.loopSet{w:World}{O:Nat→Prop}{ρ:Nat→Loc}{n:Nat}{h:A0}{b st N:Nat}{sl:List (Nat×V)}{ps:List Nat}{p:Code→Code→Prop}{s:LoopState}{pend:Option Code}
  (hr:HeapR w O ρ n h) (hg:A0.get h b st=some (.loop N sl ps p s pend)): ∃r:Loop,w.heap[(ρ st).blk]? =some (.loop r)∧r.state=s∧r.pending=pend∧r.params.toList=ps∧r.tmps.size=N∧(∀i∈ps,i<N)∧
   (∀i,R (A5 w O ρ n h) (C3 sl i) (r.tmps.getD i Go.undef))∧p r.assign r.body∧
   ∀s' pend',HeapR (w.putObj (ρ st).blk (.loop {r with state:=s',pending:=pend'})) O ρ n (A0.put h b st (.loop N sl ps p s' pend'))∧
    Ext (A5 w O ρ n h) (A5 (w.putObj (ρ st).blk (.loop {r with state:=s',pending:=pend'})) O ρ n (A0.put h b st (.loop N sl ps p s' pend'))):=by
 have hm:=A0.mem_of_get hg
 obtain⟨h1,h0,r,h2,h3,h4,h5,h6,h7,h8⟩:=hr.blk _ hm
 simp only at h1 h2 h7
 refine⟨r,h2,h3,h4,h5,h6,h0,h7,h8,fun s' pend'=> ?_⟩
 refine HeapR.step (w':=w.putObj (ρ st).blk (.loop {r with state:=s',pending:=pend'})) (ρ':=ρ) (n':=n) (b:=b) (st:=st) (x:= .loop N sl ps p s' pend') hr (Nat.le_refl _) (fun _ _=>rfl) (hr.lt _ hm) (Wd.setObj w _ _)
  (fun y hy hb=> ?_) (.inr (.inr ⟨_,hm,rfl,h1,rfl⟩)) fun hx=>⟨h1,h0,{r with state:=s',pending:=pend'},?_,rfl,rfl,h5,h6,fun i=>(h7 i).mono hx,h8⟩
 ·by_cases e:y=(ρ st).blk
  ·exact(h1 (hb e)).elim
  ·exact World.putObj_heap_other e
 ·exact World.putObj_heap_same (Array.getElem?_eq_some_iff.1 h2).1
def C1k(q:Nat×Nat)(jump:Option Code)(Q:Res)(s:St):Prop:=
 match A0.get s.h q.1 q.2 with
 |some (.loop N sl ps p _ _)=>Q (.bool jump.isNone) (A0.put s.h q.1 q.2 (.loop N sl ps p (if jump.isNone then .ready else .done) jump)) s.n
 |_=>False
theorem B3w{q:Nat×Nat}(hrd:c.rd=some q){jump:Option Code}(h:C1k q jump c.Q s){O:Nat→Prop}{ρ:Nat→Loc}{w:World}{b:Frame}{m:Machine}{cs:List Frame}(hr:HeapR w O ρ s.n s.h)(hd:C0f c.rd s.n ρ b)
  (hstep: ∀c0 cs' l v w',cs=c0::cs'→b.roundOf=some l→b.kind= .normal→(Instr.endRound l jump).run c.P w= .ok v w'→step c.P m= .next (lone (c0.finish v) cs' w')):B4X c O (A5 w O ρ s.n s.h) m b cs:=by
 unfold B4X
 rw [hrd]at hd⊢
 obtain⟨d1,d2,d3⟩:=hd
 intro c0 cs' e
 unfold C1k at h
 split at h
 ·rename_i N sl ps p s0 pend hg
  obtain⟨r,g1,g2,g3,g4,g5,_,g6,g7,g8⟩:=hr.loopSet hg
  obtain⟨g9,g10⟩:=g8 (if jump.isNone then .ready else .done) jump
  have hend:=run_endRound (P:=c.P) jump g1
  exact⟨_,ρ,_,s.n,_,_,.one (hstep c0 cs' _ _ _ e d2 d3 hend),g9,.bool _,g10,h⟩
 ·exact h.elim
theorem OK.nilR{q:Nat×Nat}(hrd:c.rd=some q)(h:C1k q none c.Q s):OK c [] s:=by
 intro O ρ a w k' b cs hr hs hd hk
 cases hk with
 |nil=>
  refine B3w hrd h hr hd fun c0 cs' l v w' e h1 h2 h3=> ?_
  subst e
  exact stepR_round_end h1 h2 h3
theorem OK.retR{q:Nat×Nat}(hrd:c.rd=some q)(h:C1k q (some .ret) c.Q s):OK c (.code .ret::k) s:=by
 intro O ρ a w k' b cs hr hs hd hk
 cases hk with
 | code hc hk=>
  rename_i cd _
  cases cd<;>simp only [N8]at hc<;>try (cases hc;done)
  case ret=>
   refine B3w hrd h hr hd fun c0 cs' l v w' e h1 h2 h3=> ?_
   subst e
   exact stepR_round_ret h1 h2 h3
  all_goals first|(split at hc<;>first|(cases hc;done)|(split at hc<;>cases hc))|(rw [Option.map_eq_some_iff]at hc;obtain⟨_,_,hc⟩:=hc;cases hc)
theorem B6C{id:Nat}{P:Program}{N:Nat}{k:List AItem}{k':List Item}(hid:Nat.beq A8o id=false)(h:RelL P N k k'):W4 id k=none→exitTo id k'=none:=by
 induction h with
 |nil=>intro _;rfl
 |code _ _ ih=>intro h;exact ih h
 |lp _ _ ih=>intro h;exact ih h
 |beg _ ih=>intro h;exact ih h
 |scp _ ih=>
  intro h
  simp only [W4,hid,cond_false]at h
  exact ih h
 | blk hk ih=>
  rename_i id' k k'
  intro h
  simp only [W4]at h
  cases hb:Nat.beq id' id with
  |true=>rw [hb]at h;cases h
  | false=>
   rw [hb]at h
   have hne:(id'==id)=false:=by
    cases hq:id'==id with
    |false=>rfl
    |true=>have:=eq_of_beq hq;subst this;rw [Nat.beq_refl]at hb;cases hb
   simp only [exitTo,hne]
   exact ih h
theorem OK.exitR{q:Nat×Nat}(hrd:c.rd=some q){id:Nat}(hsc:Nat.beq A8o id=false)(hdr:W4 id k=none)(h:C1k q (some (.exit id)) c.Q s):OK c (.code (.exit id)::k) s:=by
 intro O ρ a w k' b cs hr hs hd hk
 cases hk with
 | code hc hk=>
  rename_i cd _
  cases cd<;>simp only [N8]at hc<;>try (cases hc;done)
  case exit id'=>
   injection hc with hc
   injection hc with hc
   subst hc
   have hx:=B6C hsc hk hdr
   refine B3w hrd h hr hd fun c0 cs' l v w' e h1 h2 h3=> ?_
   subst e
   exact stepR_round_exit h1 h2 hx h3
  all_goals first|(split at hc<;>first|(cases hc;done)|(split at hc<;>cases hc))|(rw [Option.map_eq_some_iff]at hc;obtain⟨_,_,hc⟩:=hc;cases hc)
def C0j(q:Nat×Nat)(s:St)(K:St→Prop):Prop:=
 match A0.get s.h q.1 q.2 with
 |some (.loop N sl ps p .ready pend)=>K ⟨s.sl,A0.put s.h q.1 q.2 (.loop N sl ps p .busy pend),s.n⟩
 |_=>False
theorem OK.beg{q:Nat×Nat}(hrd:c.rd=some q)(h:C0j q s (OK c k)):OK c (.beg::k) s:=by
 intro O ρ a w k' b cs hr hs hd hk
 cases hk with
 | beg hk=>
  unfold C0j at h
  split at h
  ·rename_i N sl ps p pend hg
   obtain⟨r,g1,g2,g3,g4,g5,_,g6,g7,g8⟩:=hr.loopSet hg
   obtain⟨g9,g10⟩:=g8 .busy pend
   have hd':=hd
   rw [hrd]at hd'
   have hbr:=run_beginRound (P:=c.P) g1 g2
   rw [←g3]at g9 g10 h
   exact(h O ρ a _ _ b cs g9 (hs.mono g10) (hd.mono (Nat.le_refl _) fun _ _=>rfl) hk).step (.one (stepR_beginRound hd'.2.1 hbr)) g10
  ·exact h.elim
def A0l(P:Program)(N:Nat)(x y:AC)(a b:Code):Prop:=(∃B,N8 P B N a=some x)∧ ∃B,N8 P B N b=some y
def A5R(sl:List (Nat×V)):List Nat→List V→List (Nat×V)
 |p::ps,a::as=>A5R (E8 sl p a) ps as
 |_,_=>sl
theorem B7n{E:Env}{N:Nat}: ∀(ps:List Nat) (as:List V) (vs:List Value) (sl:List (Nat×V)) (t:Array Value),as.length=vs.length→(∀i∈ps,i<N)→t.size=N→(∀(i:Nat) c v,as[i]? =some c→vs[i]? =some v→R E c v)→
  (∀i,R E (C3 sl i) (t.getD i Go.undef))→((ps.zip vs).foldl (fun(t:Array Value) (q:Nat×Value)=>t.setIfInBounds q.1 q.2) t).size=N∧
   ∀i,R E (C3 (A5R sl ps as) i) (((ps.zip vs).foldl (fun(t:Array Value) (q:Nat×Value)=>t.setIfInBounds q.1 q.2) t).getD i Go.undef)
 | [],as,vs,sl,t,_,_,ht,_,h=>⟨ht,h⟩
 |p::ps,[],[],sl,t,_,_,ht,_,h=>⟨ht,h⟩
 |p::ps,[],_::_,_,_,hl,_,_,_,_=>by simp at hl
 |p::ps,_::_,[],_,_,hl,_,_,_,_=>by simp at hl
 | p::ps,a::as,v::vs,sl,t,hl,hp,ht,hR,h=>by
  rw [A5R,List.zip_cons_cons,List.foldl_cons]
  refine B7n ps as vs (E8 sl p a) _ (by simpa using hl) (fun i hi=>hp i (List.mem_cons_of_mem _ hi)) (by simp [ht]) (fun i c v hc hv=>hR (i+1) c v (by simpa using hc) (by simpa using hv)) fun i=> ?_
  have hpN:=hp p List.mem_cons_self
  rw [F0]
  by_cases hi:p=i
  ·subst hi
   rw [if_pos rfl]
   have:(t.setIfInBounds p v).getD p Go.undef=v:=by simp [Array.getD,ht,hpN]
   rw [this]
   exact hR 0 a v rfl rfl
  ·rw [if_neg hi]
   have:(t.setIfInBounds p v).getD i Go.undef=t.getD i Go.undef:=by
    simp only [Array.getD_eq_getD_getElem?,Array.getElem?_setIfInBounds]
    rw [if_neg hi]
   rw [this];exact h i
theorem P7.enter{P:Program}{b st N:Nat}{sl:List (Nat×V)}{ps:List Nat}{x y:AC}{pend:Option Code}{as:List V}{h:A0}{n:Nat}{Q:Res}(hg:A0.get h b st=some (.loop N sl ps (A0l P N x y) .ready pend))(hl:as.length=ps.length)
  (hok: ∀fn,OK ⟨P,fn,N,Q,0,some (b,st)⟩ [.code x,.beg,.code y] ⟨A5R sl ps as,h,n⟩):P7 P b st as h n Q:=by
 intro w O ρ cargs hr hst hR
 obtain⟨r,g1,g2,g3,g4,g5,g0,g6,⟨⟨B1,g7⟩,B2,g8⟩,_⟩:=hr.loopSet hg
 refine⟨r,g1,?_,trivial,fun c0 cs _=> ?_⟩
 ·have h1:=hR.1
  have:r.params.size=ps.length:=by rw [←g4];simp
  omega
 ·have hfold:(r.params.zip cargs).foldl (fun tmps (t,a)=>tmps.setIfInBounds t a) r.tmps=(ps.zip cargs.toList).foldl (fun(t:Array Value) (q:Nat×Value)=>t.setIfInBounds q.1 q.2) r.tmps:=by
   rw [←Array.foldl_toList,Array.toList_zip,g4]
  have hsim:=B7n (E:=A5 w O ρ n h) ps as cargs.toList sl r.tmps (by simpa using hR.1) g0 g5 (fun i c v hc hv=>hR.2 i c v hc (by simpa using hv)) g6
  let bf:Frame:={(default:Frame)with fn:=r.fn,kind:= .normal,roundOf:=some (ρ st).blk}
  have hb0:Frame.round (ρ st).blk r.fn ((r.params.zip cargs).foldl (fun tmps (t,a)=>tmps.setIfInBounds t a) r.tmps) r.assign r.body .normal=
    bf.atR {tmps:=(ps.zip cargs.toList).foldl (fun(t:Array Value) (q:Nat×Value)=>t.setIfInBounds q.1 q.2) r.tmps,defers:= []} [.code r.assign,.beginRound,.code r.body]:=by
   rw [hfold]
   simp [Frame.round,Frame.atR,bf]
  have key:=hok default O ρ {tmps:=(ps.zip cargs.toList).foldl (fun(t:Array Value) (q:Nat×Value)=>t.setIfInBounds q.1 q.2) r.tmps,defers:= []} w [.code r.assign,.beginRound,.code r.body] bf (c0::cs) hr ⟨hsim.1,Nat.zero_le _,.nil,hsim.2⟩ ⟨hst,rfl,rfl⟩ (.code g7 (.beg (.code g8 .nil)))
  obtain⟨w',ρ',h',n',v,x',q1,q2,q3,q4,q5⟩:=key c0 cs rfl
  rw [←hb0]at q1
  exact⟨.returned v,w',⟨v,x',h',n',ρ',rfl,q5,q2,q3,q4⟩,stepsIn_wide.2 q1⟩
def B8Y(nm st:Nat)(sl:List (Nat×V))(K:Option Code→St→Prop):Res:=fun _ h n=>
 match A0.get h nm st with
 |some (.loop _ _ _ _ s pend)=>s≠ .busy∧K pend ⟨sl,A0.del h nm,n⟩
 |_=>False
def D0L(c:Cx)(k:List AItem):Option Code→St→Prop
 |none,s=>OK c k s
 |some .ret,s=>OK c (.code .ret::k) s
 |some (.exit id),s=>OK c (.code (.exit id)::k) s
 |_,_=>False
theorem OK.rng{nm:Nat}{g:Opd}{ps:List Nat}{x y:AC}{f:FuncId}{cs:List V}(hrd:c.rd=none)(hf:s.ev g= .fn f cs)(hb:J8 c.P f=true)
  (h:A2 c.P f (.yld nm s.n::cs) (A0.put s.h nm s.n (.loop c.N s.sl ps (A0l c.P c.N x y) .ready none)) (s.n+1) (B8Y nm s.n s.sl (D0L c k))):OK c (.code (.rng nm g ps x y)::k) s:=by
 intro O ρ a w k' b cs' hr hs hd hk
 have hd0:=hd
 rw [hrd]at hd
 cases hk with
 | code hc hk=>
  rename_i cd k'
  cases cd<;>simp only [N8]at hc<;>try (cases hc;done)
  case rangeFunc g' ps' x' y'=>
   split at hc
   ·rename_i g2 x2 y2 hg' hx' hy'
    split at hc
    ·rename_i hps
     injection hc with hc
     injection hc with e1 e2 e3 e4 e5
     subst e2;subst e3;subst e4;subst e5
     generalize nm=nm0 at*
     have hev:=(hs.evr hr.gl).ev hg'
     rw [hf]at hev
     obtain⟨vs,hv,hRL⟩:=hev.fn_inv
     have hps': ∀i∈ps'.toList,i<c.N:=fun i hi=>Nat.le_of_ble_eq_true (List.all_eq_true.1 hps i hi)
     have henter:=run_enterLoop_outer (P:=c.P) (w:=w) b.fn a.tmps ps' x' y'
     generalize hL:(Loop.mk LoopState.ready none b.fn a.tmps ps' x' y' w.heap.size)=L at henter
     generalize hw1:(w.alloc (.deferred (some []))).alloc (.loop L)=w1 at henter
     rw [←hd]at henter
     -- the new world
     obtain⟨hr0,hx0⟩:=hr.world (w':=w.alloc (.deferred (some []))) (Wd.alloc w _) (fun z hz=>by show (w.heap.push _)[z]? =_;rw [Array.getElem?_push,if_neg (Nat.ne_of_lt hz)])
     let ρ1:Nat→Loc:=fun st=>if st=s.n then⟨w.heap.size+1,0,0,1⟩else ρ st
     have hρ1: ∀st,st<s.n→ρ1 st=ρ st:=fun st hst=>by simp [ρ1,Nat.ne_of_lt hst]
     have hρn:ρ1 s.n=⟨w.heap.size+1,0,0,1⟩:=by simp [ρ1]
     have hnew:w1.heap[w.heap.size+1]? =some (.loop L):=by
      have:=World.alloc_heap_new (w.alloc (.deferred (some []))) (.loop L)
      rw [World.size_alloc,hw1]at this
      exact this
     have hdef:w1.heap[w.heap.size]? =some (.deferred (some [])):=by
      rw [←hw1]
      show ((w.heap.push _).push _)[w.heap.size]? =_
      rw [Array.getElem?_push,if_neg (by simp),Array.getElem?_push,if_pos rfl]
     obtain⟨hr1,hx1⟩:=HeapR.step (w':=w1) (ρ':=ρ1) (n':=s.n+1) (b:=nm0) (st:=s.n) (x:= .loop c.N s.sl ps'.toList (A0l c.P c.N x2 y2) .ready none) hr0 (Nat.le_succ _) hρ1 (Nat.lt_succ_self _)
      (by rw [←hw1];exact Wd.alloc _ _) (fun z hz _=>by rw [←hw1];show ((w.alloc _).heap.push _)[z]? =_;rw [Array.getElem?_push,if_neg (Nat.ne_of_lt hz)])
      (.inr (.inl (by rw [hρn,World.size_alloc];exact Nat.le_refl _)))
      (fun hx=>⟨by show (ρ1 s.n).cap≠0;rw [hρn];simp,hps',L,by show w1.heap[(ρ1 s.n).blk]? =_;rw [hρn];exact hnew,by rw [←hL],by rw [←hL],by rw [←hL],by rw [←hL];exact hs.size,fun i=>by rw [←hL];exact((hs.slot i).mono hx0).mono hx,by rw [←hL];exact⟨⟨_,hx'⟩,_,hy'⟩⟩)
     have hx01:=hx0.trans hx1
     have hyv:R (A5 w1 O ρ1 (s.n+1) (A0.put s.h nm0 s.n (.loop c.N s.sl ps'.toList (A0l c.P c.N x2 y2) .ready none))) (.yld nm0 s.n) (.func (.yield (w.heap.size+1)) #[] #[]):=by
      have:=R.yld (E:=A5 w1 O ρ1 (s.n+1) (A0.put s.h nm0 s.n (.loop c.N s.sl ps'.toList (A0l c.P c.N x2 y2) .ready none))) nm0 s.n (Nat.lt_succ_self _)
      simp only [hρn]at this
      exact this
     have hargs:RL (A5 w1 O ρ1 (s.n+1) (A0.put s.h nm0 s.n (.loop c.N s.sl ps'.toList (A0l c.P c.N x2 y2) .ready none))) (.yld nm0 s.n::cs) (#[.func (.yield (w.heap.size+1)) #[] #[]]++vs):=by
      refine⟨by simp [hRL.1];omega,fun i c0 v hc hv=> ?_⟩
      cases i with
      |zero=>
       rw [Array.getElem?_append_left (by simp)]at hv
       simp at hc hv
       subst hc;subst hv
       exact hyv
      |succ i=>
       simp only [List.getElem?_cons_succ]at hc
       rw [Array.getElem?_append_right (by simp)]at hv
       simp only [List.size_toArray,List.length_cons,List.length_nil,Nat.zero_add,Nat.add_sub_cancel]at hv
       exact(hRL.2 i c0 v hc hv).mono hx01
     have evc:a.eval (.const (.func (.yield (w.heap.size+1)) #[] #[]))= .func (.yield (w.heap.size+1)) #[] #[]:=rfl
     have hres:(resolve a.eval (rangeCall g' (w.heap.size+1)) 0).run c.P w1= .ok {target:= .fn (.func f) vs,args:= #[.func (.yield (w.heap.size+1)) #[] #[]]} w1:=by
      simp [resolve,Deferred.ofValue,hv,evc]
     have hinv:(invoke (.fn (.func f) vs) #[.func (.yield (w.heap.size+1)) #[] #[]]).run c.P w1= .ok (.enter f (#[.func (.yield (w.heap.size+1)) #[] #[]]++vs)) w1:=by
      simp [invoke,A2C hb]
     have s1:=stepR_rangeFunc (P:=c.P) (b:=b) (a:=a) (k:=k') (cs:=cs') (w:=w) henter hres hinv
     obtain⟨e,w3,fr,⟨v,r,h',n',ρ',rfl,hQ,hr3,hRv,hx3⟩,hcomes,hfn,hleave⟩:=h w1 O ρ1 _ hr1 hargs (b.atR {a with defers:= [{target:= .collected w.heap.size,args:= #[]}]++a.defers} (.inRangeFunc (w.heap.size+1)::k')::cs')
     unfold B8Y at hQ
     split at hQ
     ·rename_i N2 sl2 ps2 p2 st2 pend hg
      obtain⟨hbusy,hK⟩:=hQ
      obtain⟨r2,g1,g2,g3,g4,g5,_,g6,g7,g8⟩:=hr3.loopSet hg
      subst g3
      obtain⟨g9,g10⟩:=g8 .exhausted r2.pending
      have hblk:(ρ' s.n).blk=w.heap.size+1:=by
       have h9:ρ' s.n=ρ1 s.n:=hx3.ρ s.n (Nat.lt_succ_self _)
       rw [h9,hρn]
      rw [hblk]at g1 g9 g10
      have hend:=run_endLoop (P:=c.P) g1 (by rw [g2];exact hbusy)
      obtain⟨hr4,hx4⟩:=g9.drop (h':=A0.del h' nm0) (fun e he=>List.mem_cons_of_mem _ he)
      have hx34:=(hx3.trans g10).trans hx4
      have hxall:=hx01.trans hx34
      have s2:=stepR_endRangeFunc (P:=c.P) (b:=b) (a:={a with defers:= [{target:= .collected w.heap.size,args:= #[]}]++a.defers}) (k:=k') (cs:=cs') hend
      have sm:=step_leave_returned (P:=c.P) (cs:=cs') (c:=b.atR {a with defers:= [{target:= .collected w.heap.size,args:= #[]}]++a.defers} (.inRangeFunc (w.heap.size+1)::k')) hleave
      rw [finish_atR_inRangeFunc]at sm
      have hcomes:Steps c.P _ _:=hcomes
      have sall:=Steps.head s1 (hcomes.trans (.head sm (.one s2)))
      have hno: ¬Own ρ1 (A0.put s.h nm0 s.n (.loop c.N s.sl ps'.toList (A0l c.P c.N x2 y2) .ready none)) w.heap.size:=by
       rintro⟨e,he,hc1,hc2⟩
       rcases List.mem_cons.1 he with rfl|he
       ·simp only [hρn]at hc2
        omega
       ·have he:=(A0.mem_del.1 he).1
        rw [hρ1 _ (hr.lt e he)]at hc1 hc2
        have:=hr.real ⟨e,he,hc1,hc2⟩
        omega
      have hdefw:w.heap.size<w1.heap.size:=(Array.getElem?_eq_some_iff.1 hdef).1
      obtain⟨d1,d2⟩:=hx34.blk w.heap.size hdefw hno
      have hsim:Sim c.P c.bs c.N (A5 (w3.putObj (w.heap.size+1) (.loop {r2 with state:= .exhausted,pending:=r2.pending})) O ρ' n' (A0.del h' nm0)) s.sl {a with defers:= [{target:= .collected w.heap.size,args:= #[]}]++a.defers}:=by
       refine⟨hs.size,Nat.le_trans hs.base hxall.size,⟨?_,fun d hd=> ?_⟩,fun i=>(hs.slot i).mono hxall⟩
       ·refine List.pairwise_cons.2 ⟨fun d' hm he=> ?_,hs.defers.1⟩
        subst he
        rcases hs.defers.2 _ hm with hq|⟨r',e,_,_,h4⟩
        ·exact hq
        injection e with e
        injection e with e
        subst e
        have:=(Array.getElem?_eq_some_iff.1 h4).1
        exact absurd this (Nat.lt_irrefl _)
       ·rcases List.mem_cons.1 hd with rfl|hd
        ·exact .inr ⟨w.heap.size,rfl,hs.base,d2,d1.trans hdef⟩
        ·exact(hs.defers.mono hxall).2 d hd
      have hd4:=hd0.mono hxall.n hxall.ρ
      obtain⟨j,hj⟩: ∃j,j=r2.pending:=⟨_,rfl⟩
      have sall':Steps c.P (lone (b.atR a (.code (.rangeFunc g' ps' x' y')::k')) cs' w) (lone (b.atR {a with defers:= [{target:= .collected w.heap.size,args:= #[]}]++a.defers} ((j.map Item.code).toList++k')) cs' (w3.putObj (w.heap.size+1) (.loop {r2 with state:= .exhausted,pending:=r2.pending}))):=by
       rw [hj];exact sall
      rw [←hj]at hK
      cases j with
      |none=>exact(hK O ρ' _ _ k' b cs' hr4 hsim hd4 hk).step sall' hxall
      |some cd=>
       cases cd<;>first|(exact hK.elim)|skip
       ·exact(hK O ρ' _ _ _ b cs' hr4 hsim hd4 (.code (B:=0) rfl hk)).step sall' hxall
       ·exact(hK O ρ' _ _ _ b cs' hr4 hsim hd4 (.code (B:=0) rfl hk)).step sall' hxall
     ·exact hQ.elim
    ·cases hc
   ·cases hc
  all_goals first|(split at hc<;>first|(cases hc;done)|(split at hc<;>cases hc))|(rw [Option.map_eq_some_iff]at hc;obtain⟨_,_,hc⟩:=hc;cases hc)
end
end Go.Abs
