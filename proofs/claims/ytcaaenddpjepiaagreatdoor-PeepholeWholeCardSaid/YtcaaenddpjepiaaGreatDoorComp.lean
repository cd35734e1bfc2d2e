/-
 The translation of code into abstract code, and that it keeps the meaning, in whatever order. No condition.
-/
import Derived.Test.YtcaaenddpjepiaaGreatDoorSnd
set_option linter.unusedVariables false
set_option linter.unusedSimpArgs false
namespace Go.Abs
def D3E(P:Program)(kt:TypeId):Option Nat:=
 match P.underlying kt with
 |some (.int _)=>some 0
 |some .string=>some 1
 |some .bool=>some 2
 |_=>none
def A3H(P:Program)(t:TypeId):Option (TypeId×TypeInfo):=
 match P.underlying t with
 |some (.slice e)=>(P.info? e).map fun i=>(e,i)
 |_=>none
def B7V(P:Program)(d:Option Nat)(e:TypeId):Option AO:=
 match d,P.info? e with
 |some d,some i=>match i.zero with
  |some z=>(zV z).map fun zv=> .box d i.size (.c zv)
  |none=>none
 |_,_=>none
def C4Q(P:Program)(d:Option Nat)(e:TypeId)(x:Operand):Option AO:=
 match d,P.info? e,D0 x with
 |some d,some i,some x=>some (.box d i.size x)
 |_,_,_=>none
def B7W(P:Program)(t:TypeId)(parts:Array (Nat×Operand)):Option AO:=
 match P.underlying t,P.info? t with
 | some (.struct fs),some i=>match i.zero,fs.toList.mapM (B5x P)with
  |some z,some pl=>match cVs z.cells.toList,A6s (pl[·]?) parts.toList with
   |some zs,some qs=>some (.build zs qs)
   |_,_=>none
  |_,_=>none
 | some (.array _ e),some i=>match i.zero,P.info? e with
  |some z,some ei=>match cVs z.cells.toList,A6s (fun i=>some (i*ei.size,ei.size)) parts.toList with
   |some zs,some qs=>some (.build zs qs)
   |_,_=>none
  |_,_=>none
 |_,_=>none
def A4W(P:Program)(hint:Bool)(d:Option Nat)(t:TypeId)(len:Nat)(parts:Array (Nat×Operand)):Option AO:=
 match A3H P t,d with
 | some (_,i),some d=>match i.zero,u4 (parts.toList.map (·.2))with
  |some z,some ys=>match cVs z.cells.toList with
   | some zs=>if zs.length=i.size∧len*i.size≤16777216∧parts.toList.map (·.1)=List.range' 0 parts.toList.length∧parts.toList.length=len then
     some (if hint then .mkisl i.size ys else .mkrow d i.size ys)else none
   |none=>none
  |_,_=>none
 |_,_=>none
def C0N(P:Program)(t:TypeId)(x:Operand):Option AO:=
 match B2a P t,D0 x with
 |some (n,a),some x=>some (.load n a x)
 |_,_=>none
def B8a(P:Program)(t:TypeId)(x v:Operand):Option AO:=
 match P.info? t,D0 x,D0 v with
 |some i,some x,some v=>some (.store i.size x v)
 |_,_,_=>none
def C8s(P:Program)(t:TypeId):Option Nat:=
 match P.underlying t with
 |some (.pointer _)=>some 0
 |some (.map _ _)=>some 1
 |some .bool=>some 2
 |_=>none
def C1l(P:Program)(t:TypeId):Bool:=
 match P.underlying t with
 |some (.struct _)=>true
 |_=>false
def C5c:BinOp→Option Bool
 | .eql=>some false
 | .neq=>some true
 |_=>none
def D7Y:BinOp→Option Bool
 | .shl=>some true
 | .shr=>some false
 |_=>none
def C5g(P:Program)(t:TypeId):Bool:=
 match P.underlying t with
 |some (.interface _)=>true
 |_=>false
def C3C(P:Program)(t:TypeId):Operand→Bool
 | .const (.slice none 0 0)=>match P.underlying t with
  |some (.slice _)=>true
  |_=>false
 |_=>false
theorem C3D{P:Program}{t:TypeId}{x:Operand}(h:C3C P t x=true):x= .const (.slice none 0 0)∧ ∃e,P.underlying t=some (.slice e):=by
 unfold C3C at h
 split at h
 ·split at h
  ·rename_i e a;exact⟨rfl,e,a⟩
  ·cases h
 ·cases h
def C3A(P:Program)(t:TypeId):Operand→Bool
 | .const .nilFunc=>match P.underlying t with
  |some (.func ..)=>true
  |_=>false
 |_=>false
theorem C3B{P:Program}{t:TypeId}{x:Operand}(h:C3A P t x=true):x= .const .nilFunc∧ ∃a b c,P.underlying t=some (.func a b c):=by
 unfold C3A at h
 split at h
 ·split at h
  ·rename_i a b c d;exact⟨rfl,a,b,c,d⟩
  ·cases h
 ·cases h
def C4S(P:Program)(op:BinOp)(t:TypeId)(x y:Operand):Option AO:=
 match D0 x,C5c op with
 |some x,some neg=>if C3C P t y then some (.eqn false neg x)else if C3A P t y then some (.eqn true neg x)else none
 |_,_=>none
def B9o(P:Program)(op:BinOp)(t:TypeId)(x y:Operand):Option AO:=
 match C4S P op t x y with
 |some a=>some a
 |none=>
 match D0 x,D0 y with
 | some x,some y=>match D7Y op with
  |some _=>none
  | none=>match C5c op with
   | some neg=>match C8s P t with
    |some k=>some (.eqp k neg x y)
    | none=>if C1l P t then
      match W8 P 8 t with
      |some e=>if P.eqGuardType P.depth t=false then some (.eqa neg e x y)else none
      |none=>none
     else some (.bin op x y)
   |none=>some (.bin op x y)
 |_,_=>none
def C0L(P:Program)(d:Option Nat)(a b:TypeId)(x:Operand):Option AO:=
 match P.underlying a,P.underlying b,D0 x with
 |some _,some (.int j),some x=>some (.conv j x)
 |_,_,_=>none
def B7X(P:Program)(t:TypeId)(x:Operand)(i:Nat):Option AO:=
 match P.underlying t,D0 x with
 | some (.struct fs),some x=>match fs[i]? with
  |some f=>match P.info? f.type with
   |some ti=>if ti.size=0 then none else some (.faddr f.offset x)
   |none=>none
  |none=>none
 |_,_=>none
def C4T(P:Program)(t:TypeId)(x:Operand)(i:Nat):Option AO:=
 match P.underlying t,D0 x with
 |some (.struct fs),some x=>match fs[i]? with
  |some f=>(B2a P f.type).map fun q=> .fld f.offset q.1 q.2 x
  |none=>none
 |_,_=>none
def B7Y(P:Program)(t:TypeId)(x i:Operand):Option AO:=
 match P.underlying t,D0 x,D0 i with
 |some (.slice e),some x,some i=>(P.info? e).map fun ti=> .iaddr ti.size x i
 |some (.array n e),some x,some i=>(P.info? e).map fun ti=> .iaddrA n ti.size x i
 |_,_,_=>none
def C4U(P:Program)(t:TypeId)(x i:Operand):Option AO:=
 match P.underlying t,D0 x,D0 i with
 |some .string,some x,some i=>some (.idx x i)
 |some (.array n e),some x,some i=>match P.info? e,B2a P e with
  |some ti,some q=>some (.idxA n ti.size q.1 q.2 x i)
  |_,_=>none
 |_,_,_=>none
def C4R(P:Program)(t:TypeId)(x:Operand):Option AO:=
 match A3H P t,D0 x with
 |some (_,i),some x=>match i.zero with
  |some z=>(cVs z.cells.toList).map fun zs=> .clr zs x
  |none=>none
 |_,_=>none
def B5O(P:Program)(d:Option Nat)(t:TypeId)(l c:Operand):Option AO:=
 match l,c,d,A3H P t with
 | .tmp a,.tmp b,some d,some (_,i)=>if a=b∧i.bytes≤1024 then
   match i.zero with
   |some z=>match cVs z.cells.toList with
    |some zs=>if zs.length=i.size then some (.mksl d zs (.t a))else none
    |none=>none
   |none=>none
  else none
 | .const (.int .i64 a),.const (.int .i64 b),some d,some (_,i)=>if a=b∧i.bytes≤1024 then
   match i.zero with
   |some z=>match cVs z.cells.toList with
    |some zs=>if zs.length=i.size then some (.mksl d zs (.c (.int .i64 a)))else none
    |none=>none
   |none=>none
  else none
 |_,_,_,_=>none
def C4W(P:Program)(t:TypeId)(x:Operand)(lo hi:Option Operand):Option AO:=
 match P.underlying t,D0 x,A8e lo,A8e hi with
 |some (.slice e),some x,some lo,some hi=>(P.info? e).map fun ti=> .slc ti.size x lo hi
 |some .string,some x,some lo,some hi=>some (.sls x lo hi)
 |_,_,_,_=>none
def C8f(P:Program)(d:Option Nat)(t:TypeId)(x:Operand)(lo hi mx:Option Operand):Option AO:=
 match mx with
 |none=>C4W P t x lo hi
 |some _=>none
def B7Z(P:Program)(d:Option Nat)(t:TypeId)(r:Option Operand):Option AO:=
 match d,r with
 |some d,none=>some (.mkmap d)
 |some d,some (.const (.int _ _))=>match P.underlying t with
  |some (.map _ _)=>some (.mkmap d)
  |_=>none
 |_,_=>none
def C5l(P:Program)(t:TypeId):Option (Nat×TypeId):=
 match P.underlying t with
 |some (.map k e)=>(D3E P k).map fun kd=>(kd,e)
 |_=>none
def C0O(P:Program)(t:TypeId)(m x:Operand)(ok:Bool):Option AO:=
 match C5l P t,D0 m,D0 x with
 | some (kd,e),some m,some x=>match P.info? e with
  |some i=>match i.zero with
   |some z=>(zV z).map fun zv=> .look kd zv ok m x
   |none=>none
  |none=>none
 |_,_,_=>none
def B5P(P:Program)(t:TypeId)(m x v:Operand):Option AO:=
 match C5l P t,D0 m,D0 x,D0 v with
 |some (kd,_),some m,some x,some v=>some (.mput kd m x v)
 |_,_,_,_=>none
def C4V(P:Program)(t:TypeId)(x:Operand):Option AO:=
 match P.underlying t,D0 x with
 |some (.slice _),some x=>some (.len 0 x)
 |some .string,some x=>some (.len 1 x)
 |some (.map _ _),some x=>some (.len 2 x)
 |_,_=>none
def D2c(P:Program)(u:TypeId):Bool:=
 match P.underlying u with
 |some (.slice _)|some .string=>true
 |_=>false
def C4P(P:Program)(d:Option Nat)(t u:TypeId)(x y:Operand):Option AO:=
 match d,A3H P t,D0 x,D0 y with
 |some d,some (_,i),some x,some y=>match i.zero with
  |some z=>if D2c P u=true∧z.cells.size=i.size∧i.bytes≤1024 then(if D7Q.contains (d/10000)then some (.apb (140737488355328/i.bytes) d i.size x y)else some (.app d i.size x y))else none
  |none=>none
 |_,_,_,_=>none
def C0M(P:Program)(t:TypeId)(x y:Operand):Option AO:=
 match A3H P t,D0 x,D0 y with
 |some (_,i),some x,some y=>some (.copy i.size x y)
 |_,_,_=>none
def A5T(P:Program)(d:Option Nat)(b:Builtin)(args:List Operand)(ts:List TypeId):Option AO:=
 match b,args,ts with
 | .len,[x],[t]=>C4V P t x
 | .append,[x,y],[t,u]=>C4P P d t u x y
 | .max,[x,y],_=>match D0 x,D0 y with
  |some x,some y=>some (.mm true [x,y])
  |_,_=>none
 | .min,[x,y],_=>match D0 x,D0 y with
  |some x,some y=>some (.mm false [x,y])
  |_,_=>none
 | .copy,[x,y],[t,u]=>C0M P t x y
 | .clear,[x],[t]=>C4R P t x
 |_,_,_=>none
def B5N(P:Program)(hint:Bool)(f:Operand)(args:List Operand):Option AO:=
 match u4 args with
 |some xs=>match f with
  | .func g=>if K8 P g then some (if hint&&D2n.any (Nat.beq g)then .pcall g xs else .call g xs)else none
  | .tmp i=>some (.callv (.t i) xs)
  |_=>none
 |none=>none
def C0P(P:Program)(hint:Bool)(d:Option Nat)(op:Op):Option AO:=
 match op with
 | .move x| .assign x=>(D0 x).map .mov
 | .pick c a b=>match D0 c,D0 a,D0 b with
  |some c,some a,some b=>some (.pick c a b)
  |_,_,_=>none
 | .nilCheck x=>(D0 x).map .nilck
 | .extract x i=>(D0 x).map (.ext i)
 | .unOp op _ x=>(D0 x).map (.un op)
 | .alloc e=>B7V P d e
 | .box e x=>C4Q P d e x
 | .build t parts=>B7W P t parts
 | .buildSlice t len parts=>A4W P hint d t len parts
 | .load t x=>C0N P t x
 | .store t x v=>B8a P t x v
 | .binOp op t x y _=>B9o P op t x y
 | .convert a b x=>C0L P d a b x
 | .fieldAddr t x i=>B7X P t x i
 | .field t x i=>C4T P t x i
 | .indexAddr t x i=>B7Y P t x i
 | .index t x i=>C4U P t x i
 | .makeSlice t l c=>B5O P d t l c
 | .slice t x lo hi mx=>C8f P d t x lo hi mx
 | .makeMap t r=>B7Z P d t r
 | .lookup t m x ok=>C0O P t m x ok
 | .mapUpdate t m x v| .insert t m x v=>B5P P t m x v
 | .makeFunc (.func f) first xs=>if first.size=0 then(u4 xs.toList).map (.mkfn f)else none
 | .call c=>match c.callee with
  | .builtin b=>A5T P d b c.args.toList c.argTypes.toList
  | .value f=>B5N P hint f c.args.toList
  |_=>none
 |_=>none
section
variable {P:Program} {k:Res} {w:World} {O:Nat→Prop} {ρ:Nat→Loc} {s:St} {η:Operand→Value} {o:Oper} {ao:AO} {d:Option Nat} {hint:Bool}
theorem B3y{cs:Array Value}{z:List V}(h:cVs cs.toList=some z):(∀E:Env,RL E z cs)∧ ∀(i:Nat) v,cs[i]? =some v→v.oneCell'=true:=by
 refine⟨fun E=> ?_,fun i v a=> ?_⟩
 ·obtain⟨e,d,_⟩:=C4M (E:=E) h
  exact⟨by simpa using e,fun i c v b a=>d i c v b zA⟩
 ·obtain⟨_,_,f⟩:=C4M (E:=⟨default,fun _=>False,fun _=>False,fun _=>default,0⟩) h
  exact f i v zA
theorem C3H{k:TypeId}{b:Nat}(h:D3E P k=some b):C0z P k b:=by
 unfold D3E at h
 split at h<;>first|(cases h;done)|skip
 ·rename_i j a;injection h with h;exact .inl ⟨h.symm,_,a⟩
 ·rename_i a;injection h with h;exact .inr (.inl ⟨h.symm,a⟩)
 ·rename_i a;injection h with h;exact .inr (.inr ⟨h.symm,a⟩)
theorem U4{t:TypeId}{q:TypeId×TypeInfo}(h:A3H P t=some q):P.underlying t=some (.slice q.1)∧P.info? q.1=some q.2:=by
 unfold A3H at h
 split at h
 ·rename_i e a
  rw [Option.map_eq_some_iff]at h
  obtain⟨i,b,rfl⟩:=h
  exact⟨a,b⟩
 ·cases h
theorem B0c{t:TypeId}{a:Nat}{e:TypeId}(h:C5l P t=some (a,e)): ∃k,P.underlying t=some (.map k e)∧C0z P k a:=by
 unfold C5l at h
 split at h
 ·rename_i k d c
  rw [Option.map_eq_some_iff]at h
  obtain⟨i,b,h⟩:=h
  injection h with h1 h2
  subst h1;subst h2
  exact⟨k,c,C3H b⟩
 ·cases h
theorem A4K{g:FuncId}{args:Array Value}(h:K8 P g=true)(w:World):(callFunc g args).run P w= .ok (.enter g args) w:=by
 unfold K8 at h
 split at h
 ·rename_i f a
  rw [Bool.and_eq_true]at h
  obtain⟨i,b⟩:=h
  have d:f.body.isNone=false:=by cases hb:f.body<;>simp_all
  have c:(f.name== "runtime.NumGoroutine")=false:=by simpa using b
  have e: ¬(f.name== "runtime.NumGoroutine")=true:=by rw [c];simp
  simp only [callFunc,Sem.run_bind,run_program,Result.andThen_ok,a]
  rw [if_neg e,if_neg (by rw [d];simp)]
  rfl
 ·cases h
theorem C9K{f:Operand}{args:Array Operand}{ts:Array TypeId}(A:o.op= .call {callee:= .value f,args,argTypes:=ts})(b:B5N P hint f args.toList=some ao)
  (G:HeapR w O ρ s.n s.h) (v:EvR (A8 w O ρ s.n s.h) s η) (hk:C3 P ao s k):D8 P k w O ρ s.h s.n ((execOp η o).run P w):=by
 unfold B5N at b
 split at b
 ·rename_i I m
  have h:=v.evs m
  have e:(args.map η)=(args.toList.map η).toArray:=by apply Array.ext';simp
  split at b
  ·rename_i g
   split at b
   ·rename_i x
    injection b with b
    have hk:A0 P g (I.map s.ev) s.h s.n k:=by
     subst b
     split at hk
     ·obtain⟨r,C,B⟩:=hk
      exact C k B
     ·exact hk
    have d:(execOp η o).run P w= .ok (.enter g (args.map η)) w:=by
     simp [execOp,A,resolve,Deferred.ofValue,v.2.2.1,invoke,A4K x]
    rw [d]
    refine⟨rfl,_,?_,hk⟩
    rw [e];exact h
   ·cases b
  ·rename_i i
   injection b with b
   subst b
   have E:=v.1 i
   simp only [C3,St.ev]at hk
   generalize D9 s.sl i=N at*
   unfold A9S at hk
   split at hk
   ·rename_i g L
    obtain⟨x,hk⟩:=hk
    obtain⟨J,y,F⟩:=E.fn_inv
    have d:(execOp η o).run P w= .ok (.enter g (args.map η++J)) w:=by
     simp [execOp,A,resolve,Deferred.ofValue,y,invoke,A4K x]
    rw [d]
    refine⟨rfl,_,?_,hk⟩
    rw [e]
    refine⟨by simp [F.1,h.1],fun q c u b l=> ?_⟩
    rw [List.getElem?_append]at b
    rw [Array.getElem?_append]at l
    have n:=h.1
    split at b
    ·rename_i z
     rw [if_pos (by rw [←n];exact z)]at l
     exact h.2 q c u b l
    ·rename_i z
     rw [if_neg (by rw [←n];exact z)]at l
     rw [n]at b
     exact F.2 _ c u b l
   ·rename_i M D
    obtain⟨p,y⟩:=E.yld_inv
    obtain⟨r,C,B,K⟩:=hk w O ρ _ G p h
    have d:(execOp η o).run P w= .ok (.round (ρ D).blk r.fn ((r.params.zip (args.map η)).foldl (fun j (t,a)=>j.setIfInBounds t a) r.tmps) r.assign r.body) w:=by
     have H:=run_yield (P:=P) (args:=args.map η) C (by rw [e];exact B)
     simp [execOp,A,resolve,Deferred.ofValue,y,invoke,H]
    rw [d,e]
    exact⟨rfl,K⟩
   ·exact hk.elim
  ·cases b
 ·cases b
theorem C2C{b:Builtin}{args:Array Operand}{ts:Array TypeId}(m:o.op= .call {callee:= .builtin b,args,argTypes:=ts})(h:A5T P d b args.toList ts.toList=some ao)
  (l:HeapR w O ρ s.n s.h) (j:EvR (A8 w O ρ s.n s.h) s η) (hk:C3 P ao s k):D8 P k w O ρ s.h s.n ((execOp η o).run P w):=by
 obtain⟨args⟩:=args
 obtain⟨ts⟩:=ts
 have h:A5T P d b args ts=some ao:=h
 unfold A5T at h
 split at h
 ·rename_i x t
  unfold C4V at h
  split at h<;>first|(cases h;done)|(injection h with h;subst h)
  ·rename_i g a;exact C0r m g (.inl ⟨rfl,_,rfl⟩) a l j hk
  ·rename_i g a;exact C0r m g (.inr (.inl ⟨rfl,rfl⟩)) a l j hk
  ·rename_i g a;exact C0r m g (.inr (.inr ⟨rfl,_,_,rfl⟩)) a l j hk
 ·rename_i x y t u
  unfold C4P at h
  split at h
  ·rename_i J e i D F C a n
   obtain⟨q,p⟩:=U4 C
   split at h
   ·rename_i z v
    split at h
    ·rename_i r
     obtain⟨c,f,G⟩:=r
     unfold D2c at c
     split at h
     ·injection h with h
      subst h
      have hk:A9P _ _ _ _ _ _ _ _:=hk
      split at c
      ·rename_i E g;exact B5A m q g (.inl ⟨E,rfl⟩) p v f (Nat.div_le_self _ _) (Nat.div_mul_le_self _ _) a n l j hk
      ·rename_i g;exact B5A m q g (.inr rfl) p v f (Nat.div_le_self _ _) (Nat.div_mul_le_self _ _) a n l j hk
      ·cases c
     ·injection h with h
      subst h
      have hk:A9P _ _ _ _ _ _ _ _:=hk
      have A:137438953472*i.bytes≤140737488355328:=Nat.le_trans (Nat.mul_le_mul_left _ G) zh
      split at c
      ·rename_i E g;exact B5A m q g (.inl ⟨E,rfl⟩) p v f zh A a n l j hk
      ·rename_i g;exact B5A m q g (.inr rfl) p v f zh A a n l j hk
      ·cases c
    ·cases h
   ·cases h
  ·cases h
 ·rename_i x y
  split at h
  ·rename_i D F a n
   injection h with h
   subst h
   exact C9U (mx:=true) m a n l j hk
  ·cases h
 ·rename_i x y
  split at h
  ·rename_i D F a n
   injection h with h
   subst h
   exact C9U (mx:=false) m a n l j hk
  ·cases h
 ·rename_i x y t u
  unfold C0M at h
  split at h
  ·rename_i e i D F C a n
   injection h with h
   subst h
   obtain⟨q,p⟩:=U4 C
   exact C9M m q p a n l j hk
  ·cases h
 ·rename_i x t
  unfold C4R at h
  split at h
  ·rename_i e i D C a
   obtain⟨q,p⟩:=U4 C
   split at h
   ·rename_i z v
    rw [Option.map_eq_some_iff]at h
    obtain⟨I,f,rfl⟩:=h
    obtain⟨H,B⟩:=B3y f
    exact D1u m q p v H B a l j hk
   ·cases h
  ·cases h
 ·cases h
theorem C7u{r:BinOp}{t B:TypeId}{x y:Operand}(p:o.op= .binOp r t x y B)(h:B9o P r t x y=some ao)
  (n:HeapR w O ρ s.n s.h) (l:EvR (A8 w O ρ s.n s.h) s η) (hk:C3 P ao s k):D8 P k w O ρ s.h s.n ((execOp η o).run P w):=by
 unfold B9o at h
 split at h
 ·rename_i a i
  injection h with h
  subst h
  unfold C4S at i
  split at i
  ·rename_i D neg m d
   have f:r=if neg then .neq else .eql:=by cases r<;>simp [C5c]at d<;>subst d<;>rfl
   split at i
   ·rename_i z
    injection i with i
    subst i
    obtain⟨rfl,e,j⟩:=C3D z
    exact C9O (neg:=neg) (by rw [p,f]) j m n l hk (l.2.1 _)
   ·split at i
    ·rename_i z
     injection i with i
     subst i
     obtain⟨rfl,a,b,c,j⟩:=C3B z
     exact C9N (neg:=neg) (by rw [p,f]) j m n l hk (l.2.1 _)
    ·cases i
  ·cases i
 split at h
 ·rename_i D G m v
  split at h
  ·cases h
  split at h
  ·rename_i neg d
   have f:r=if neg then .neq else .eql:=by cases r<;>simp [C5c]at d<;>subst d<;>rfl
   split at h
   ·rename_i E g
    injection h with h
    subst h
    unfold C8s at g
    split at g<;>first|(cases g;done)|(injection g with g;subst g)
    ·rename_i e j;exact C0q (neg:=neg) (by rw [p,f]) j (.inl ⟨rfl,_,rfl⟩) m v n l hk
    ·rename_i e u j;exact C0q (neg:=neg) (by rw [p,f]) j (.inr (.inl ⟨rfl,_,_,rfl⟩)) m v n l hk
    ·rename_i j;exact C0q (neg:=neg) (by rw [p,f]) j (.inr (.inr ⟨rfl,rfl⟩)) m v n l hk
   ·split at h
    ·rename_i q
     split at h
     ·rename_i e A
      split at h
      ·rename_i C
       injection h with h
       subst h
       unfold C1l at q
       split at q
       ·rename_i F j
        exact D1v (neg:=neg) (by rw [p,f]) j A C m v n l hk
       ·cases q
      ·cases h
     ·cases h
    ·injection h with h
     subst h
     exact C5x p m v n l hk
  ·injection h with h
   subst h
   exact C5x p m v n l hk
 ·cases h
theorem C4t{t:TypeId}{len:Nat}{parts:Array (Nat×Operand)}(p:o.op= .buildSlice t len parts)(h:A4W P hint d t len parts=some ao)
  (m:HeapR w O ρ s.n s.h) (l:EvR (A8 w O ρ s.n s.h) s η) (hk:C3 P ao s k):D8 P k w O ρ s.h s.n ((execOp η o).run P w):=by
 unfold A4W at h
 split at h
 ·rename_i e i D y
  obtain⟨r,q⟩:=U4 y
  split at h
  ·rename_i z C u f
   split at h
   ·rename_i B g
    split at h
    ·rename_i b
     obtain⟨x,n,j,v⟩:=b
     injection h with h
     subst h
     obtain⟨A,a⟩:=B3y g
     have c:z.cells.size=i.size:=by
      rw [←x];exact((A ⟨default,fun _=>False,fun _=>False,fun _=>default,0⟩).1).symm
     cases hint with
     |true=>exact C7y p r q u c a n j v f m l hk
     |false=>exact C7z p r q u c a n j v f m l hk
    ·cases h
   ·cases h
  ·cases h
 ·cases h
theorem C9S{t:TypeId}{l c:Operand}(y:o.op= .makeSlice t l c)(h:B5O P d t l c=some ao)
  (x:HeapR w O ρ s.n s.h) (A:EvR (A8 w O ρ s.n s.h) s η) (hk:C3 P ao s k):D8 P k w O ρ s.h s.n ((execOp η o).run P w):=by
 unfold B5O at h
 split at h
 ·exact YX
 ·exact YX
 ·cases h
theorem C0Q(h:C0P P hint d o.op=some ao)
  (g:HeapR w O ρ s.n s.h) (u:EvR (A8 w O ρ s.n s.h) s η) (hk:C3 P ao s k):D8 P k w O ρ s.h s.n ((execOp η o).run P w):=by
 generalize p:o.op=X at h
 cases X<;>simp only [C0P]at h<;>try (cases h;done)
 case move x=>
  rw [Option.map_eq_some_iff]at h
  obtain⟨y,I,rfl⟩:=h
  exact C2F (.inl p) I g u hk
 case assign x=>
  rw [Option.map_eq_some_iff]at h
  obtain⟨y,I,rfl⟩:=h
  exact C2F (.inr p) I g u hk
 case pick c a b=>
  split at h
  ·rename_i c' a' b' h1 h2 h3
   injection h with h
   subst h
   exact C9V p h1 h2 h3 g u hk
  ·cases h
 case nilCheck x=>
  rw [Option.map_eq_some_iff]at h
  obtain⟨y,I,rfl⟩:=h
  exact C7A p I g u hk
 case extract x i=>
  rw [Option.map_eq_some_iff]at h
  obtain⟨y,I,rfl⟩:=h
  exact C2D p I g u hk
 case unOp X t x=>
  rw [Option.map_eq_some_iff]at h
  obtain⟨y,I,rfl⟩:=h
  exact D4k p I g u hk
 case alloc e=>
  unfold B7V at h
  split at h
  ·rename_i d' i D
   split at h
   ·rename_i z K
    rw [Option.map_eq_some_iff]at h
    obtain⟨zv,M,rfl⟩:=h
    exact C7t p D K (D4I M) g hk
   ·cases h
  ·cases h
 case box e x=>
  unfold C4Q at h
  split at h
  ·rename_i d' i E D A
   injection h with h
   subst h
   exact D1t p A g u hk
  ·cases h
 case build t parts=>
  unfold B7W at h
  split at h
  ·rename_i fs i B D
   split at h
   ·rename_i z pl K hpl
    split at h
    ·rename_i zs qs L Q
     injection h with h
     subst h
     obtain⟨hR,G⟩:=B3y L
     exact C7v p B hpl D K hR G Q g u hk
    ·cases h
   ·cases h
  ·rename_i len e i B D
   split at h
   ·rename_i z ei K V
    split at h
    ·rename_i zs qs L Q
     injection h with h
     subst h
     obtain⟨hR,G⟩:=B3y L
     exact C4r p B V D K hR G Q g u hk
    ·cases h
   ·cases h
  ·cases h
 case buildSlice t len parts=>exact C4t p h g u hk
 case load t x=>
  unfold C0N at h
  split at h
  ·rename_i n a E ht A
   injection h with h
   subst h
   exact C9Q p ht A g u hk
  ·cases h
 case store t x v=>
  unfold B8a at h
  split at h
  ·rename_i i E v' D A S
   injection h with h
   subst h
   exact C7B p D A S g u hk
  ·cases h
 case binOp X t x y t'=>
  exact C7u p h g u hk
 case convert a b x=>
  unfold C0L at h
  split at h
  ·rename_i da j E ha B A
   injection h with h
   subst h
   exact C9L p ha B A g u hk
  ·cases h
 case fieldAddr t x i=>
  unfold B7X at h
  split at h
  ·rename_i fs E B A
   split at h
   ·rename_i f Y
    split at h
    ·rename_i U C
     split at h
     ·cases h
     ·rename_i K
      injection h with h
      subst h
      exact C7w p B Y C K A g u hk
    ·cases h
   ·cases h
  ·cases h
 case field t x i=>
  unfold C4T at h
  split at h
  ·rename_i fs E B A
   split at h
   ·rename_i f Y
    rw [Option.map_eq_some_iff]at h
    obtain⟨q,Z,rfl⟩:=h
    exact D1w p B Y Z A g u hk
   ·cases h
  ·cases h
 case indexAddr t x i=>
  unfold B7Y at h
  split at h<;>try (cases h;done)
  ·rename_i e E i' B A D
   rw [Option.map_eq_some_iff]at h
   obtain⟨U,C,rfl⟩:=h
   exact C7x p B C A D g u hk
  ·rename_i n e E i' B A D
   rw [Option.map_eq_some_iff]at h
   obtain⟨U,C,rfl⟩:=h
   exact C4s p B C A D g u hk
 case index t x i=>
  unfold C4U at h
  split at h<;>try (cases h;done)
  ·rename_i E i' B A D
   injection h with h
   subst h
   exact D1x p B A D g u hk
  ·rename_i n e E i' B A D
   split at h
   ·rename_i U q C Z
    injection h with h
    subst h
    exact C9P p B C Z A D g u hk
   ·cases h
 case makeSlice t l c=>exact C9S p h g u hk
 case slice t x lo D mx=>
  unfold C8f at h
  cases mx with
  |some m=>cases h
  | none=>
   simp only at h
   unfold C4W at h
   split at h<;>try (cases h;done)
   ·rename_i e E lo' hi' B A R N
    rw [Option.map_eq_some_iff]at h
    obtain⟨U,C,rfl⟩:=h
    exact D1y p B C A R N g u hk
   ·rename_i E lo' hi' B A R N
    injection h with h
    subst h
    exact D1z p B A R N g u hk
 case makeMap t r=>
  unfold B7Z at h
  split at h
  ·injection h with h
   subst h
   exact B8U p (.inl rfl) g u hk
  ·split at h
   ·rename_i a b B
    injection h with h
    subst h
    exact B8U p (.inr ⟨⟨_,_,rfl⟩,_,_,B⟩) g u hk
   ·cases h
  ·cases h
 case lookup t m x ok=>
  unfold C0O at h
  split at h
  ·rename_i kd e m' E F T A
   obtain⟨kt,B,H⟩:=B0c F
   split at h
   ·rename_i i D
    split at h
    ·rename_i z K
     rw [Option.map_eq_some_iff]at h
     obtain⟨zv,M,rfl⟩:=h
     exact C9R p B H D K (D4I M) T A g u hk
    ·cases h
   ·cases h
  ·cases h
 case mapUpdate t m x v=>
  unfold B5P at h
  split at h
  ·rename_i kd e m' E v' F T A S
   injection h with h
   subst h
   obtain⟨kt,B,H⟩:=B0c F
   exact C2G (.inl p) B H T A S g u hk
  ·cases h
 case insert t m x v=>
  unfold B5P at h
  split at h
  ·rename_i kd e m' E v' F T A S
   injection h with h
   subst h
   obtain⟨kt,B,H⟩:=B0c F
   exact C2G (.inr p) B H T A S g u hk
  ·cases h
 case makeFunc fn first xs=>
  cases fn<;>try (cases h;done)
  rename_i f
  simp only at h
  split at h
  ·rename_i h0
   rw [Option.map_eq_some_iff]at h
   obtain⟨ys,W,rfl⟩:=h
   have:first= #[]:=Array.eq_empty_of_size_eq_zero h0
   subst this
   exact C9T p W g u hk
  ·cases h
 case call c=>
  obtain⟨J,args,ts⟩:=c
  simp only at h
  cases J with
  |value f=>exact C9K p h g u hk
  |invoke r m=>cases h
  |builtin b=>exact C2C p h g u hk
end
end Go.Abs
namespace Go.Abs
def B9i(P:Program)(d:Deferred):Prop:= ∃fv cap f args,d.target= .fn fv cap∧(∀w,(invoke d.target d.args).run P w= .ok (.enter f args) w)∧
 ∀w,CallsD P f args .returning w fun e u' w'=>(∃v,e= .returned v)∧u'= .returning∧w'=w
def B4p(o:Oper)(d:Nat):Bool:=
 match o.dst,o.guard with
 |some i,none=>Nat.beq i d
 |_,_=>false
theorem A6X{o:Oper}{d:Nat}(h:B4p o d=true):o.dst=some d∧o.guard=none:=by
 unfold B4p at h
 split at h
 ·rename_i i a b;rw [a,b,Nat.eq_of_beq_eq_true h];exact⟨rfl,rfl⟩
 ·cases h
def D1K(P:Program)(N:Nat)(o0 o1 o2 o3:Oper)(c:Nat):Bool:=
 match o0.op,o1.op,o2.op,o3.op with
 | .call q,.assign (.tmp a),.move (.tmp b),.binOp .neq t (.tmp e) (.const .nilIface) _=>
  (match q.callee with| .builtin .recover=>true|_=>false)&&(B4p o0 a&&(B4p o1 b&&(B4p o2 e&&(B4p o3 c&&(Nat.blt a N&&(Nat.blt b N&&(Nat.blt e N&&(Nat.blt c N&&C5g P t))))))))
 |_,_,_,_=>false
def B9W(P:Program)(f:FuncId):Bool:=
 match P.funcs[f]? with
 | some fn=>match fn.body with
  |some (.seq (.region _ ops0 false) (.seq (.region _ ops1 false) (.cond (.tmp c) _ .skip)))=>match ops0.toList,ops1.toList with
   | [o0,o1],[o2,o3]=>K8 P f&&(fn.results.isEmpty&&D1K P fn.ntmps o0 o1 o2 o3 c)
   |_,_=>false
  |_=>false
 |none=>false
theorem A4N{o:Oper}{f:Nat→Option Bool}(h:o.guard=none):Region.wanted o f=true:=by simp [Region.wanted,h]
theorem A9Y{a:Act}{d:Nat}{v:Value}(h:d<a.tmps.size):(a.put (some d) v).eval (.tmp d)=v:=by
 simp [Act.put,Act.eval,Array.getD,h]
theorem B3h{a:Act}{d:Nat}{v:Value}:(a.put (some d) v).tmps.size=a.tmps.size:=by simp [Act.put]
theorem B6E{P:Program}{ops:Array Oper}{Q:Exit→Act→List Frame→World→Prop}{i:Nat}{rest:List Nat}{a:Act}{cs:List Frame}{w:World}{o:Oper}{v:Value}(c:ops[i]? =some o)(d:o.guard=none)(b:(execOp a.eval o).run P w= .ok (.value v) w)
  (h:wpOpsS P ops Q rest (a.put o.dst v) cs w):wpOpsS P ops Q (i::rest) a cs w:=by
 simp only [wpOpsS,c,A4N d,if_true,b]
 exact h
theorem C9o{P:Program}{ops:Array Oper}{Q:Exit→Act→List Frame→World→Prop}{i:Nat}{rest:List Nat}{a:Act}{cs:List Frame}{w:World}{o:Oper}(d:ops[i]? =some o)(e:o.guard=none)(b:(execOp a.eval o).run P w= .ok .recover w)(c:recoverD cs=none)
  (h:wpOpsS P ops Q rest (a.put o.dst .nilIface) cs w):wpOpsS P ops Q (i::rest) a cs w:=by
 simp only [wpOpsS,d,A4N e,if_true,b,c]
 exact h
theorem C9v{P:Program}{f:FuncId}(h:B9W P f=true)(args:Array Value)(w:World):CallsD P f args .returning w fun e u' w'=>(∃v,e= .returned v)∧u'= .returning∧w'=w:=by
 unfold B9W at h
 split at h
 ·rename_i p hf
  split at h
  ·rename_i i0 l i1 j c x hb
   split at h
   ·rename_i N M O C h0 H
    rw [Bool.and_eq_true,Bool.and_eq_true]at h
    obtain⟨_,k,h⟩:=h
    have e0:l= #[N,M]:=Array.ext' h0
    have e1:j= #[O,C]:=Array.ext' H
    subst e0;subst e1
    unfold D1K at h
    split at h
    ·rename_i q a b t e u Y Z p2 p3
     simp only [Bool.and_eq_true]at h
     obtain⟨hq,E,J,G,B,S,V,R,Q,z⟩:=h
     obtain⟨E,W⟩:=A6X E
     obtain⟨J,g1⟩:=A6X J
     obtain⟨G,g2⟩:=A6X G
     obtain⟨B,X⟩:=A6X B
     have S:=Nat.le_of_ble_eq_true S
     have V:=Nat.le_of_ble_eq_true V
     have R:=Nat.le_of_ble_eq_true R
     have Q:=Nat.le_of_ble_eq_true Q
     refine callsD_of_wpS hf hb fun F D T=> ?_
     generalize U:({tmps:=args++Array.replicate (p.ntmps-args.size) undef,defers:= []}:Act)=A
     have y:p.ntmps≤A.tmps.size:=by rw [←U];simp;omega
     have L:A.defers= []:=by rw [←U]
     have i:recoverD (F::D)=none:=by simp [recoverD,T]
     have g:q.callee= .builtin .recover:=by
      revert hq
      cases hcc:q.callee with
      |builtin b=>cases b<;>simp
      |value f=>simp
      |invoke r m=>simp
     obtain⟨qc,qa,qt⟩:=q
     subst g
     have r0: ∀η:Operand→Value,(execOp η N).run P w= .ok .recover w:=fun η=>by simp [execOp,Y,resolve,invoke,builtin]
     have r1: ∀η:Operand→Value,(execOp η M).run P w= .ok (.value (η (.tmp a))) w:=fun η=>by simp [execOp,Z]
     have r2: ∀η:Operand→Value,(execOp η O).run P w= .ok (.value (η (.tmp b))) w:=fun η=>by simp [execOp,p2]
     have r3: ∀η:Operand→Value,η (.tmp e)= .nilIface→η (.const .nilIface)= .nilIface→(execOp η C).run P w= .ok (.value (.bool false)) w:=fun η H h2=>by
      unfold C5g at z
      split at z
      ·rename_i ms hm
       have:=C0m (P:=P) (w:=w) hm
       simp [execOp,p3,H,h2,eqGuard,binOp,this]
      ·cases z
     refine wpS_seq (wpS_region ?_)
     refine C9o (o:=N) rfl W (r0 _) i (B6E (o:=M) rfl g1 (r1 _) ?_)
     rw [E,J,A9Y zd]
     generalize d:(A.put (some a) Value.nilIface).put (some b) Value.nilIface=n
     have hs1:p.ntmps≤n.tmps.size:=by rw [←d,B3h,B3h];exact y
     have K:n.defers= []:=by rw [←d];exact L
     have s:n.eval (.tmp b)= .nilIface:=by rw [←d];exact A9Y (by rw [B3h];omega)
     show (Code.seq _ _).wpS P _ n (F::D) w
     refine wpS_seq (wpS_region ?_)
     refine B6E (o:=O) rfl g2 (r2 _) ?_
     rw [G,s]
     refine B6E (o:=C) rfl X (r3 _ (A9Y zd) rfl) ?_
     rw [B]
     show (Code.cond _ _ _).wpS P _ _ (F::D) w
     refine wpS_cond (t:=false) (A9Y (by rw [B3h];omega)) ?_
     refine wpS_of_wp (wp_skip ?_)
     refine⟨K,.returning,by rw [←T],?_⟩
     have I:p.results= #[]:=by simpa using k
     exact⟨.tuple #[],by simp [results,I],⟨_,rfl⟩,rfl,rfl⟩
    ·cases h
   ·cases h
  ·cases h
 ·cases h
def A9d(P:Program)(bs:Nat)(E:Env)(ds:List Deferred):Prop:=
 ds.Pairwise (fun d d'=>d=d'→B9i P d)∧ ∀d∈ds,B9i P d∨ ∃r,d={target:= .collected r,args:= #[]}∧bs≤r∧ ¬E.own r∧E.w.heap[r]? =some (.deferred (some []))
theorem A9d.nil{P:Program}{bs:Nat}{E:Env}:A9d P bs E []:=⟨List.Pairwise.nil,fun d h=>by cases h⟩
theorem A9d.mono{P:Program}{bs:Nat}{E E':Env}{b:List Deferred}(c:Ext E E')(h:A9d P bs E b):A9d P bs E' b:=by
 refine⟨h.1,fun d i=> ?_⟩
 rcases h.2 d i with f|⟨r,g,e,j,a⟩
 ·exact .inl f
 obtain⟨k,q⟩:=c.blk r (Array.getElem?_eq_some_iff.1 a).1 j
 exact .inr ⟨r,g,e,q,k.trans a⟩
theorem A9d.push{P:Program}{bs:Nat}{E:Env}{a:List Deferred}{d:Deferred}(h:A9d P bs E a)(b:B9i P d):A9d P bs E (d::a):=
 ⟨List.pairwise_cons.2 ⟨fun _ _ _=>b,h.1⟩,fun x c=>(List.mem_cons.1 c).elim (fun e=> .inl (e ▸ b)) (h.2 x)⟩
structure Sim(P:Program)(bs N:Nat)(E:Env)(sl:List (Nat×V))(a:Act):Prop where
 size:a.tmps.size=N
 base:bs≤E.w.heap.size
 defers:A9d P bs E a.defers
 slot: ∀i,R E (D9 sl i) (a.tmps.getD i Go.undef)
theorem I6(sl:List (Nat×V))(i:Nat)(v:V)(j:Nat):D9 (I2 sl i v) j=if i=j then v else D9 sl j:=by
 induction sl with
 | nil=>
  simp only [I2,D9]
  by_cases h:i=j
  ·subst h;simp
  ·rw [if_neg h]
   have:Nat.beq i j=false:=by cases hb:Nat.beq i j with
    |false=>rfl
    |true=>exact(h (Nat.eq_of_beq_eq_true hb)).elim
   rw [this];rfl
 | cons p r b=>
  simp only [I2]
  cases hb:Nat.beq p.1 i with
  | true=>
   have hp:=Nat.eq_of_beq_eq_true hb
   simp only [cond_true,D9]
   by_cases h:i=j
   ·subst h;simp
   ·rw [if_neg h]
    have a:Nat.beq i j=false:=by cases hb':Nat.beq i j with
     |false=>rfl
     |true=>exact(h (Nat.eq_of_beq_eq_true hb')).elim
    rw [a,hp,a];rfl
  | false=>
   rw [cond_false]
   cases hlt:Nat.blt p.1 i with
   | true=>
    rw [cond_true]
    simp only [D9]
    by_cases h:i=j
    ·subst h;simp
    ·rw [if_neg h]
     have a:Nat.beq i j=false:=by cases hb':Nat.beq i j with
      |false=>rfl
      |true=>exact(h (Nat.eq_of_beq_eq_true hb')).elim
     rw [a];rfl
   |false=>
   simp only [cond_false,D9,b]
   cases hb':Nat.beq p.1 j with
   |true=>
    have hp:=Nat.eq_of_beq_eq_true hb'
    have:i≠j:=fun e=>by rw [←hp]at e;rw [e,Nat.beq_refl]at hb;cases hb
    simp [this]
   |false=>rfl
theorem Sim.evr{P:Program}{bs N:Nat}{E:Env}{s:St}{a:Act}(h:Sim P bs N E s.sl a)(b:GlR E):EvR E s a.eval:=⟨h.slot,fun _=>rfl,fun _=>rfl,fun _=>rfl,b⟩
theorem Sim.mono{P:Program}{bs N:Nat}{E E':Env}{sl:List (Nat×V)}{a:Act}(h:Sim P bs N E sl a)(b:Ext E E'):Sim P bs N E' sl a:=⟨h.size,Nat.le_trans h.base b.size,h.defers.mono b,fun i=>(h.slot i).mono b⟩
theorem Sim.set{P:Program}{bs N:Nat}{E:Env}{sl:List (Nat×V)}{a:Act}(h:Sim P bs N E sl a){d:Nat}{v:V}{x:Value}(c:d<N)(e:R E v x):Sim P bs N E (I2 sl d v) (a.put (some d) x):=by
 refine⟨by simp [Act.put,h.size],h.base,h.defers,fun i=> ?_⟩
 rw [I6]
 have f:=h.size
 by_cases b:d=i
 ·subst b
  rw [if_pos rfl]
  have:(a.put (some d) x).tmps.getD d Go.undef=x:=by simp [Act.put,Array.getD,f,c]
  rw [this];exact e
 ·rw [if_neg b]
  have:(a.put (some d) x).tmps.getD i Go.undef=a.tmps.getD i Go.undef:=by
   simp only [Act.put,Array.getD_eq_getD_getElem?,Array.getElem?_setIfInBounds]
   rw [if_neg b]
  rw [this];exact h.slot i
theorem Sim.know{P:Program}{bs N:Nat}{E:Env}{sl:List (Nat×V)}{a:Act}(h:Sim P bs N E sl a){d:Nat}{b:Bool}(e:D9 sl d= .bool b):Sim P bs N E (I2 sl d (.bool b)) a:=by
 refine⟨h.size,h.base,h.defers,fun i=> ?_⟩
 rw [I6]
 by_cases c:d=i
 ·subst c;rw [if_pos rfl,←e];exact h.slot d
 ·rw [if_neg c];exact h.slot i
def C5a(N:Nat):Option Nat→Bool
 |none=>true
 |some d=>Nat.blt d N
def D1O(ops:Array Oper):Option (Nat×Bool)→Option (Option (Nat×Bool))
 |none=>some none
 |some (j,want)=>match (ops[j]?).bind (·.dst)with
  |some d=>some (some (d,want))
  |none=>none
def C8M(d:Option Nat):Operand→Bool
 | .tmp i=>d==some i
 |_=>false
def D4D:Operand→Bool
 | .func g=>D4a.any (Nat.beq g)
 |_=>false
def D3s(ops:Array Oper)(d:Option Nat):Bool:=ops.toList.any fun o=>match o.op with
 | .call {callee:= .builtin .append,args,.. }=>(args.toList.drop 1).any (C8M d)
 | .call {callee:= .value f,args,.. }=> !(Nat.beq args.size 1)&& !(D4D f)&&args.toList.any (C8M d)
 |_=>false
def C1R(o:Oper):Bool:=match o.op with
 | .call {callee:= .value (.func g),.. }=>D2n.any (Nat.beq g)
 |_=>false
def D0N(ops:Array Oper)(o:Oper):Bool:=bif C1R o then Nat.ble 3 (ops.toList.countP C1R)else D3s ops o.dst
def D6I(ops:Array Oper)(d:Option Nat):Bool:=ops.toList.any fun o=>match o.op with
 | .convert a b x=>Nat.beq a b&&C8M d x
 |_=>false
def C8e(P:Program)(_ hint:Bool)(d:Option Nat)(op:Op):Option AO:=C0P P hint d op
def C0K(P:Program)(B N:Nat)(ops:Array Oper)(o:Oper):Option AI:=
 match D1O ops o.guard with
 |some g=>bif C5a N o.dst then some ⟨o.dst,g,(C8e P (D6I ops o.dst) (D0N ops o) (o.dst.map fun d=>B+d) o.op).getD .bad⟩else none
 |none=>none
theorem C5W{P:Program}{k:Res}{w:World}{O:Nat→Prop}{ρ:Nat→Loc}{s:St}{η:Operand→Value}{o:Oper}{hint:Bool}{d:Option Nat}(h:HeapR w O ρ s.n s.h)(a:EvR (A8 w O ρ s.n s.h) s η)
  (hk:C3 P ((C0P P hint d o.op).getD .bad) s k):D8 P k w O ρ s.h s.n ((execOp η o).run P w):=by
 cases hc:C0P P hint d o.op with
 |none=>rw [hc]at hk;exact hk.elim
 |some ao=>rw [hc]at hk;exact C0Q hc h a hk
theorem B7U{P:Program}{k:Res}{w:World}{O:Nat→Prop}{ρ:Nat→Loc}{s:St}{η:Operand→Value}{o:Oper}{r hint:Bool}{d:Option Nat}(h:HeapR w O ρ s.n s.h)(a:EvR (A8 w O ρ s.n s.h) s η)
  (hk:C3 P ((C8e P r hint d o.op).getD .bad) s k):D8 P k w O ρ s.h s.n ((execOp η o).run P w):=by
 exact C5W h a hk
def A6r(P:Program):List AI→St→(St→Prop)→Prop
 | [],s,K=>K s
 |i::r,s,K=>G4 P i s fun s'=>A6r P r s' K
def frB(n:Nat):V→Prop
 | .ptr _ st _ _=>st<n
 | .sl _ st _ m=>m≠0→st<n
 | .mp _ st=>st<n
 |_=>True
theorem frB.mono{n n':Nat}(h:n≤n'): ∀{v:V},frB n v→frB n' v:=fun{v} a=>by
 cases v<;>first|exact trivial|exact Nat.lt_of_lt_of_le a h|exact fun b=>Nat.lt_of_lt_of_le (a b) h
theorem R.fr{E:Env}{v:V}{c:Value}(h:R E v c):frB E.n v:=by
 cases h<;>first|exact trivial|assumption|exact fun _=>by assumption|exact fun h=>absurd rfl h
def D5Y(s:St):Prop:= ∀i,frB s.n (D9 s.sl i)
def VF(P:Program):List AI→St→(St→Prop)→Prop
 | [],s,K=>K s
 |i::r,s,K=>D5Y s→G4 P i s fun s'=>VF P r s' K
section
variable {P:Program} {bs B N:Nat} {O:Nat→Prop} {ops:Array Oper} {Q:Exit→Act→World→Prop} {ro:Option Nat}
def Fr(ro:Option Nat):Fence:={Fence.wide with round:=ro}
theorem C3d{n:Nat}{f:FuncId}{args:Array Value}{w:World}{R:Ending→World→Prop}(h:Calls P f args w R):CallsIn (Fr ro) n P f args w R:=
 have a:CallsIn Fence.wide n P f args w R:=callsIn_wide.2 h
 a
theorem C4g{n:Nat}{l:Nat}{f:FuncId}{t:Array Value}{x y:Code}{w:World}{R:Ending→World→Prop}(h:RoundIn Fence.wide n P l f t x y w R):RoundIn (Fr ro) n P l f t x y w R:=h
theorem B0X{o:Oper}{k:Res}{s:St}{r hint:Bool}{d:Option Nat}(hk:C3 P ((C8e P r hint d o.op).getD .bad) s k): ∀c,o.op≠ .defer c:=by
 intro c h
 rw [h]at hk
 exact hk
theorem A6Z{o:Oper}{a c:Act}{w w':World}{ρ ρ':Nat→Loc}{s:St}{sl:List (Nat×V)}{K:St→Prop}{next:Act→World→Prop}{v:Value}{r:V}{h':A2}{n':Nat}(g:C5a N o.dst=true)(i:Sim P bs N (A8 w O ρ s.n s.h) sl a)
  (h: ∀ρ' (s':St) c w',HeapR w' O ρ' s'.n s'.h→Sim P bs N (A8 w' O ρ' s'.n s'.h) s'.sl c→Ext (A8 w O ρ s.n s.h) (A8 w' O ρ' s'.n s'.h)→K s'→next c w')
  (hk:fin o.dst sl K r h' n') (f:HeapR w' O ρ' n' h') (k:R (A8 w' O ρ' n' h') r v) (e:Ext (A8 w O ρ s.n s.h) (A8 w' O ρ' n' h')) (j:c=a.put o.dst v):next c w':=by
 subst j
 have b:=i.mono e
 unfold fin at hk
 cases hdst:o.dst with
 |none=>
  rw [hdst]at hk
  exact h ρ' ⟨sl,h',n'⟩ _ w' f b e hk
 |some d=>
  rw [hdst]at hk g
  exact h ρ' ⟨I2 sl d r,h',n'⟩ _ w' f (b.set (Nat.le_of_ble_eq_true g) k) e hk
theorem C4Z{o:Oper}{a:Act}{w:World}{ρ:Nat→Loc}{s:St}{sl:List (Nat×V)}{K:St→Prop}{next:Act→World→Prop}(m: ∀c,o.op≠ .defer c)(l:C5a N o.dst=true)(t:HeapR w O ρ s.n s.h)(k:Sim P bs N (A8 w O ρ s.n s.h) sl a)
  (b: ∀ρ' (s':St) a' j,HeapR j O ρ' s'.n s'.h→Sim P bs N (A8 j O ρ' s'.n s'.h) s'.sl a'→Ext (A8 w O ρ s.n s.h) (A8 j O ρ' s'.n s'.h)→K s'→next a' j)
  (h:D8 P (fin o.dst sl K) w O ρ s.h s.n ((execOp a.eval o).run P w)):o.wpIn (Fr ro) 0 P a w next Q:=by
 refine⟨fun _ _=>trivial,?_⟩
 rw [Oper.semAt_eq _ _ _ m]
 generalize (execOp a.eval o).run P w=u at h
 unfold D8 at h
 split at h
 ·obtain⟨r,p,q,ρ',hk,d,i,f⟩:=h
  exact A6Z l k b hk d i f rfl
 ·obtain⟨r,p,q,ρ',hk,d,i,f⟩:=h
  exact A6Z l k b hk d i f rfl
 ·obtain⟨rfl,x,n,g⟩:=h
  refine⟨fun h=>by simp [Fr,Fence.wide]at h,C3d ((g _ O ρ _ t n).mono ?_)⟩
  rintro e j ⟨v,r,p,q,ρ',rfl,hk,d,i,f⟩
  exact A6Z l k b hk d i f rfl
 ·obtain⟨rfl,h⟩:=h
  refine⟨fun h=>by simp [Fr,Fence.wide]at h,C4g (h.mono ?_)⟩
  rintro e j ⟨v,r,p,q,ρ',rfl,hk,d,i,f⟩
  exact A6Z l k b hk d i f rfl
 ·exact h.elim
theorem C2L{o:Oper}{i:AI}{a:Act}{w:World}{ρ:Nat→Loc}{s:St}{K:St→Prop}{next:Act→World→Prop}(p:C0K P B N ops o=some i)(r:HeapR w O ρ s.n s.h)(v:Sim P bs N (A8 w O ρ s.n s.h) s.sl a)
  (hk:G4 P i s K)
  (d: ∀ρ' (s':St) a' w',HeapR w' O ρ' s'.n s'.h→Sim P bs N (A8 w' O ρ' s'.n s'.h) s'.sl a'→Ext (A8 w O ρ s.n s.h) (A8 w' O ρ' s'.n s'.h)→K s'→next a' w'):
  if Region.wanted o (yielded ops a.tmps)then o.wpIn (Fr ro) 0 P a w next Q else next (a.put o.dst Go.undef) w:=by
 unfold C0K at p
 split at p
 ·rename_i g f
  cases hd:C5a N o.dst with
  |false=>rw [hd]at p;cases p
  | true=>
   rw [hd,cond_true]at p
   injection p with p
   subst p
   unfold D1O at f
   cases hgd:o.guard with
   |none=>
    rw [hgd]at f
    injection f with f
    subst f
    simp only [G4]at hk
    have A:Region.wanted o (yielded ops a.tmps)=true:=by simp [Region.wanted,hgd]
    rw [A,if_pos rfl]
    exact C4Z (B0X hk) hd r v d (B7U r (v.evr r.gl) hk)
   | some q=>
    obtain⟨j,e⟩:=q
    rw [hgd]at f
    simp only at f
    split at f
    ·rename_i l C
     injection f with f
     subst f
     simp only [G4,stepG]at hk
     split at hk
     ·rename_i b D
      have c:=v.slot l
      rw [D]at c
      have k:=c.bool_inv
      have E:l<a.tmps.size:=by
       rcases Nat.lt_or_ge l a.tmps.size with h|h
       ·exact h
       ·rw [Array.getD_eq_getD_getElem?,Array.getElem?_eq_none h]at k;cases k
      have z:a.tmps[l]? =some (.bool b):=by
       rw [Array.getD_eq_getD_getElem?]at k
       simp only [Array.getElem?_eq_getElem E]at k⊢
       simpa using k
      have F:yielded ops a.tmps j=some b:=by simp [yielded,C,z]
      have A:Region.wanted o (yielded ops a.tmps)=(b==e):=by simp [Region.wanted,hgd,F]
      rw [A]
      by_cases y:b=e
      ·subst y
       rw [if_pos zf]
       have n:=v.know D
       exact C4Z (s:=⟨I2 s.sl l (.bool b),s.h,s.n⟩) (B0X (hk.1 rfl)) hd r n d (B7U (s:=⟨I2 s.sl l (.bool b),s.h,s.n⟩) r (Sim.evr (s:=⟨I2 s.sl l (.bool b),s.h,s.n⟩) n r.gl) (hk.1 rfl))
      ·rw [if_neg (by simpa using y)]
       have t:b= !e:=by cases b<;>cases e<;>simp_all
       have n:=v.know D
       have m:=hk.2 t
       rw [←t]at m
       exact A6Z hd n d m r (.cst _) (Ext.refl _) rfl
     ·rename_i u H
      obtain⟨G,m⟩:=hk
      have c:=v.slot l
      rw [H]at c
      have k:a.tmps.getD l Go.undef=u:=c.cst_inv
      have F:yielded ops a.tmps j=none:=by
       simp only [yielded,C]
       rw [Array.getD_eq_getD_getElem?]at k
       cases hq:a.tmps[l]? with
       |none=>simp [hq]
       |some x=>
        rw [hq]at k
        simp only [Option.getD_some]at k
        subst k
        cases x<;>first|(cases G;done)|simp [hq]
      have A:Region.wanted o (yielded ops a.tmps)=false:=by simp [Region.wanted,hgd,F]
      rw [A,if_neg zf]
      exact A6Z hd v d m r (.cst _) (Ext.refl _) rfl
     ·exact hk.elim
    ·cases f
 ·cases p
theorem B3P: ∀(l:List Nat) (c:List AI) (a:Act) (w:World) (ρ:Nat→Loc) (s:St) (K:St→Prop),c.length=l.length→(∀(q:Nat) j,l[q]? =some j→ ∃o i,ops[j]? =some o∧c[q]? =some i∧C0K P B N ops o=some i)→
  HeapR w O ρ s.n s.h→Sim P bs N (A8 w O ρ s.n s.h) s.sl a→VF P c s K→
  (∀ρ' (s':St) e d,HeapR d O ρ' s'.n s'.h→Sim P bs N (A8 d O ρ' s'.n s'.h) s'.sl e→Ext (A8 w O ρ s.n s.h) (A8 d O ρ' s'.n s'.h)→K s'→Q .normal e d)→wpOpsIn (Fr ro) 0 P ops Q l a w
 | [],c,a,w,ρ,s,K,hl,_,hr,hs,hk,hq=>by
  have:c= []:=List.eq_nil_of_length_eq_zero Qa
  subst this
  exact hq ρ s a w hr hs (Ext.refl _) hk
 | j::l,c,a,w,ρ,s,K,hl,hc,hr,hs,hk,hq=>by
  obtain⟨o,i,x,n,h⟩:=hc 0 j rfl
  cases c with
  |nil=>cases n
  | cons E c=>
   simp at n
   subst n
   simp only [wpOpsIn,x]
   have b:=C2L (Q:=Q) (ro:=ro) (next:=wpOpsIn (Fr ro) 0 P ops Q l) h hr hs (hk fun i=>(hs.slot i).fr) fun ρ' s' e d f p m t=>
    B3P l c e d ρ' s' K Qa (fun q C D=>hc (q+1) C (by simpa using D)) f p t fun ρ2 A y z r v u g=>hq ρ2 A y z r v (m.trans u) g
   split at b
   ·rename_i k;rw [if_pos k];exact b
   ·rename_i k;rw [if_neg k];exact⟨fun _ _=>trivial,b⟩
end
end Go.Abs
namespace Go.Abs
def A0v:Opd→List Nat
 | .t i=> [i]
 |_=> []
def C4C:Option Opd→List Nat
 |some x=>A0v x
 |none=> []
def A5C:AO→List Nat
 | .mov x| .nilck x| .box _ _ x| .load _ _ x| .faddr _ x| .fld _ _ _ x| .ext _ x| .un _ x| .conv _ x| .eqn _ _ x| .len _ x| .mksl _ _ x| .clr _ x=>A0v x
 | .pick c a b=>A0v c++A0v a++A0v b
 | .build _ ps=>ps.flatMap fun p=>A0v p.2.2
 | .mkrow _ _ xs| .mkisl _ xs| .mm _ xs| .mkfn _ xs| .call _ xs| .pcall _ xs=>xs.flatMap A0v
 | .store _ x v| .iaddr _ x v| .iaddrA _ _ x v| .idx x v| .bin _ x v| .eqp _ _ x v| .eqa _ _ x v| .app _ _ x v| .apb _ _ _ x v| .copy _ x v| .look _ _ _ x v| .idxA _ _ _ _ x v=>A0v x++A0v v
 | .slc _ x lo hi| .sls x lo hi=>A0v x++C4C lo++C4C hi
 | .mkmap _| .bad=> []
 | .mput _ m k v=>A0v m++A0v k++A0v v
 | .callv f xs=>A0v f++xs.flatMap A0v
section
variable {P:Program} {s s':St}
def E1(l:List Nat)(s s':St):Prop:= ∀i∈l,D9 s.sl i=D9 s'.sl i
theorem E1.left{l r:List Nat}(h:E1 (l++r) s s'):E1 l s s':=fun i a=>h i zH
theorem E1.right{l r:List Nat}(h:E1 (l++r) s s'):E1 r s s':=fun i a=>h i zH
theorem E1.ev{x:Opd}(h:E1 (A0v x) s s'):s.ev x=s'.ev x:=by
 cases x with
 |t i=>exact h i (by simp [A0v])
 |c v=>rfl
 |f g=>rfl
 |g g=>rfl
theorem E1.evo{x:Option Opd}(h:E1 (C4C x) s s'):x.map s.ev=x.map s'.ev:=by
 cases x with
 |none=>rfl
 |some x=>simp only [Option.map_some];rw [E1.ev h]
theorem E1.evs: ∀{a:List Opd} (_:E1 (a.flatMap A0v) s s'),a.map s.ev=a.map s'.ev
 | [],_=>rfl
 |x::r,h=>by
  rw [List.flatMap_cons]at h
  simp only [List.map_cons,h.left.ev,E1.evs h.right]
theorem E1.rows{sz:Nat}: ∀{a:List Opd} (_:E1 (a.flatMap A0v) s s'),O8 sz s a=O8 sz s' a
 | [],_=>rfl
 |x::r,h=>by
  rw [List.flatMap_cons]at h
  simp only [O8,h.left.ev,E1.rows h.right]
theorem E1.fill: ∀{a:List (Nat×Nat×Opd)} {z:List V} (_:E1 (a.flatMap fun p=>A0v p.2.2) s s'),A4u s z a=A4u s' z a
 | [],_,_=>rfl
 | p::r,z,h=>by
  rw [List.flatMap_cons]at h
  simp only [A4u,h.left.ev]
  cases A3y (s'.ev p.2.2)with
  |none=>rfl
  |some c=>
   simp only
   rw [E1.fill (z:=L3 z p.1 c) h.right]
theorem A0t{ao:AO}{k:Res}(h:E1 (A5C ao) s s')(a:s.h=s'.h)(b:s.n=s'.n):C3 P ao s k=C3 P ao s' k:=by
 cases ao<;>simp only [A5C]at h<;>simp only [C3,a,b]
 case mov=>rw [h.ev]
 case nilck=>rw [h.ev]
 case box=>rw [h.ev]
 case load=>rw [h.ev]
 case faddr=>rw [h.ev]
 case fld=>rw [h.ev]
 case ext=>rw [h.ev]
 case un=>rw [h.ev]
 case conv=>rw [h.ev]
 case len=>rw [h.ev]
 case mksl=>rw [h.ev]
 case pick=>rw [h.left.left.ev,h.left.right.ev,h.right.ev]
 case build=>rw [h.fill]
 case mkrow=>rw [h.rows]
 case mkisl=>rw [h.rows]
 case mm=>rw [h.evs]
 case mkfn=>rw [h.evs]
 case call=>rw [h.evs]
 case eqn=>rw [h.ev]
 case pcall=>rw [h.evs]
 case store=>rw [h.left.ev,h.right.ev]
 case iaddr=>rw [h.left.ev,h.right.ev]
 case iaddrA=>rw [h.left.ev,h.right.ev]
 case idx=>rw [h.left.ev,h.right.ev]
 case bin=>rw [h.left.ev,h.right.ev]
 case eqp=>rw [h.left.ev,h.right.ev]
 case eqa=>rw [h.left.ev,h.right.ev]
 case app=>rw [h.left.ev,h.right.ev]
 case apb=>rw [h.left.ev,h.right.ev]
 case copy=>rw [h.left.ev,h.right.ev]
 case look=>rw [h.left.ev,h.right.ev]
 case idxA=>rw [h.left.ev,h.right.ev]
 case clr=>rw [h.ev]
 case slc=>rw [h.left.left.ev,h.left.right.evo,h.right.evo]
 case sls=>rw [h.left.left.ev,h.left.right.evo,h.right.evo]
 case mput=>rw [h.left.left.ev,h.left.right.ev,h.right.ev]
 case callv=>rw [h.left.ev,h.right.evs]
section mono
variable {k k':Res} {hp:A2} {n:Nat} (hk: ∀v h n,k v h n→k' v h n)
include hk
theorem N5{o:Option V}(h:S7 o k hp n):S7 o k' hp n:=by
 cases o with
 |none=>exact h
 |some v=>exact hk _ _ _ h
theorem B1l{f:FuncId}{e:List V}(h:A0 P f e hp n k):A0 P f e hp n k':=fun w O ρ d l g=>(h w O ρ d l g).mono fun _ _ ⟨v,r,i,j,ρ',a,b,c⟩=>⟨v,r,i,j,ρ',a,hk _ _ _ b,c⟩
theorem C6j{f neg:Bool}{x:V}(h:A8h f neg x k hp n):A8h f neg x k' hp n:=by
 unfold A8h at h⊢
 split at h
 ·exact hk _ _ _ h
 ·exact⟨hk _ _ _ h.1,fun e=>hk _ _ _ (h.2 e)⟩
 ·exact⟨hk _ _ _ h.1,fun e=>hk _ _ _ (h.2 e)⟩
 ·exact hk _ _ _ h
 ·exact hk _ _ _ h
 ·exact h.elim
theorem C5K{b st:Nat}{f:List V}(h:V5 P b st f hp n k):V5 P b st f hp n k':=fun w O ρ d l g o=>
 let ⟨r,a,b,c⟩:=h w O ρ d l g o
 ⟨r,a,b,c.mono fun _ _ ⟨v,x,i,j,ρ',e,q,m⟩=>⟨v,x,i,j,ρ',e,hk _ _ _ q,m⟩⟩
theorem C5R{o:BinOp}{x y:V}(h:u3 o x y k hp n):u3 o x y k' hp n:=by
 unfold u3 at h⊢
 split at h
 ·cases o<;>first
   |exact h
   |exact⟨h.1,hk _ _ _ h.2⟩
   |exact⟨h.1,h.2.1,hk _ _ _ h.2.2⟩
   |exact⟨h.1,h.2.1,h.2.2.1,hk _ _ _ h.2.2.2⟩
 ·cases o<;>first
   |exact h
   |exact hk _ _ _ h
   |exact⟨h.1,hk _ _ _ h.2⟩
 ·exact h
theorem C3x{len sz m:Nat}{a:Bool}{x y:V}(h:B0a len sz m a x y k hp n):B0a len sz m a x y k' hp n:=by
 unfold B0a at h⊢
 split at h
 ·exact⟨h.1,h.2.1,N5 hk h.2.2⟩
 ·exact h
theorem C5V{z:List V}{x:V}(h:B4U z x k hp n):B4U z x k' hp n:=by
 unfold B4U at h⊢
 split at h
 ·exact hk _ _ _ h
 ·exact Xw
 ·exact h
theorem D0e{o:UnOp}{x:V}(h:unK o x k hp n):unK o x k' hp n:=by
 unfold unK at h⊢
 split at h
 ·exact⟨h.1,hk _ _ _ h.2⟩
 ·exact hk _ _ _ h
 ·exact hk _ _ _ h
 ·exact h
theorem B7P{L nm sz:Nat}{b:V}{x:Option (List (List V))}(h:A9P L nm sz b x k hp n):A9P L nm sz b x k' hp n:=by
 unfold A9P at h⊢
 cases x with
 |none=>exact h
 | some x=>
  obtain⟨a,h⟩:=h
  refine⟨a,?_⟩
  cases b<;>first
   |exact h
   |exact⟨h.1,hk _ _ _ h.2⟩
   |skip
  simp only at h⊢
  split at h
  ·exact Yn
  ·exact h
theorem C3f{sz:Nat}{b:V}{x:Option (List (List V))}(h:A9g sz b x k hp n):A9g sz b x k' hp n:=by
 unfold A9g at h⊢
 cases x with
 |none=>exact h
 | some x=>
  obtain⟨a,h⟩:=h
  refine⟨a,?_⟩
  cases b<;>first
   |exact h
   |exact hk _ _ _ h
   |skip
  simp only at h⊢
  exact Xw
theorem C7r{sz:Nat}{x:V}{l a:Option V}(h:B3i sz x l a k hp n):B3i sz x l a k' hp n:=by
 unfold B3i at h⊢
 cases x<;>first
  |exact h
  | (simp only at h⊢
     split at h
     ·first
       |exact⟨h.1,h.2.1,h.2.2.1,h.2.2.2.1,hk _ _ _ h.2.2.2.2⟩
       |exact⟨h.1,h.2.1,hk _ _ _ h.2.2⟩
     ·exact h)
theorem C7s{x:V}{l a:Option V}(h:B5i x l a k hp n):B5i x l a k' hp n:=by
 unfold B5i at h⊢
 cases x<;>first
  |exact h
  | (simp only at h⊢
     split at h
     ·exact Yn
     ·exact h)
theorem d8{ao:AO}(h:C3 P ao s k):C3 P ao s k':=by
 cases ao<;>simp only [C3]at h⊢
 case mov=>exact hk _ _ _ h
 case pick=>exact N5 hk h
 case nilck=>exact N5 hk h
 case build=>exact N5 hk h
 case load=>exact N5 hk h
 case faddr=>exact N5 hk h
 case fld=>exact N5 hk h
 case ext=>exact N5 hk h
 case eqp=>exact N5 hk h
 case eqa=>exact N5 hk h
 case conv=>exact N5 hk h
 case len=>exact N5 hk h
 case mm=>exact N5 hk h
 case mkfn=>exact hk _ _ _ h
 case mkmap=>exact hk _ _ _ h
 case bin=>exact C5R hk h
 case un=>exact D0e hk h
 case idxA=>exact C3x hk h
 case clr=>exact C5V hk h
 case app=>exact B7P hk h
 case apb=>exact B7P hk h
 case copy=>exact C3f hk h
 case slc=>exact C7r hk h
 case sls=>exact C7s hk h
 case call=>exact B1l hk h
 case pcall=>
  obtain⟨r,a,b⟩:=h
  exact⟨r,a,hk _ _ _ b⟩
 case eqn=>exact C6j hk h
 case callv=>
  unfold A9S at h⊢
  split at h
  ·exact⟨h.1,B1l hk h.2⟩
  ·exact C5K hk h
  ·exact h
 case box=>
  unfold B7x at h⊢
  split at h
  ·exact⟨h.1,hk _ _ _ h.2⟩
  ·exact h
 case mkrow=>
  unfold C2l at h⊢
  exact Ki
 case mkisl=>
  unfold C1m at h⊢
  exact Ki
 case store=>
  unfold B0Z at h⊢
  exact Ki
 case iaddr=>
  unfold A3C at h⊢
  split at h
  ·split at h
   ·exact Yn
   ·exact Yn
   ·exact h
  ·exact h
 case iaddrA=>
  unfold A3M at h⊢
  split at h
  ·split at h
   ·exact⟨h.1,h.2.1,hk _ _ _ h.2.2⟩
   ·exact⟨h.1,h.2.1,hk _ _ _ h.2.2⟩
   ·exact h
  ·exact h
 case idx=>
  unfold B9K at h⊢
  split at h
  ·exact⟨h.1,N5 hk h.2⟩
  ·exact h
 case mksl=>
  unfold B4B at h⊢
  exact Xw
 case look=>
  unfold A9l at h⊢
  split at h
  ·exact⟨h.1,hk _ _ _ h.2⟩
  ·exact Xw
  ·exact h
 case mput=>
  unfold B2E at h⊢
  split at h
  ·exact Xw
  ·exact h
end mono
def cls:AO→Nat
 | .mov _| .pick .. | .nilck _| .build .. | .mkisl .. | .faddr .. | .iaddrA .. | .fld .. | .idx .. | .ext .. | .bin .. | .eqp .. | .eqa .. | .un .. | .conv .. | .mm .. | .mkfn .. | .sls .. | .idxA .. =>0
 | .load .. | .iaddr .. | .len .. | .slc .. | .look .. =>1
 |_=>2
def keeps:AO→Bool
 | .pcall .. =>true
 | .eqn .. =>true
 |_=>false
def D2E(P:Program)(ao:AO)(s:St)(pre:Prop)(v:V):Prop:= ∀(k:Res) h n,(cls ao=0∨h=s.h)→(C3 P ao ⟨s.sl,h,n⟩ k↔pre∧k v h n)
theorem Q8(o:Option V): ∃(p:Prop) (v:V),∀(k:Res) h n,S7 o k h n↔p∧k v h n:=by
 cases o with
 |none=>exact⟨False,.undef,fun k h n=>by simp [S7]⟩
 |some v=>exact⟨True,v,fun k h n=>by simp [S7]⟩
theorem af2{a b x:Prop}:(a∧b∧x)↔((a∧b)∧x):=and_assoc.symm
theorem af3{a b c x:Prop}:(a∧b∧c∧x)↔((a∧b∧c)∧x):=by simp only [and_assoc]
theorem af4{a b c d x:Prop}:(a∧b∧c∧d∧x)↔((a∧b∧c∧d)∧x):=by simp only [and_assoc]
theorem A4H: ∃(p:Prop) (v:V),∀(k:Res) (h:A2) (n:Nat),False↔p∧k v h n:=⟨False,.undef,fun _ _ _=>by simp⟩
theorem C5Q(o:BinOp)(x y:V): ∃(p:Prop) (v:V),∀(k:Res) h n,u3 o x y k h n↔p∧k v h n:=by
 unfold u3
 split
 ·cases o
  case add=>unfold u2;exact⟨_,_,fun k h n=>af2⟩
  case sub=>unfold u2;exact⟨_,_,fun k h n=>af2⟩
  case mul=>unfold u2;exact⟨_,_,fun k h n=>af2⟩
  case quo=>unfold u2;exact⟨_,_,fun k h n=>af3⟩
  case rem=>exact⟨_,_,fun k h n=>af2⟩
  case eql=>exact⟨_,_,fun k h n=>Iff.rfl⟩
  case neq=>exact⟨_,_,fun k h n=>Iff.rfl⟩
  case lss=>exact⟨_,_,fun k h n=>Iff.rfl⟩
  case leq=>exact⟨_,_,fun k h n=>Iff.rfl⟩
  case gtr=>exact⟨_,_,fun k h n=>Iff.rfl⟩
  case geq=>exact⟨_,_,fun k h n=>Iff.rfl⟩
  case and=>exact⟨_,_,fun k h n=>Iff.rfl⟩
  case or=>exact⟨_,_,fun k h n=>Iff.rfl⟩
  case xor=>exact⟨_,_,fun k h n=>Iff.rfl⟩
  case andNot=>exact⟨_,_,fun k h n=>Iff.rfl⟩
  all_goals exact⟨False,.undef,fun k h n=>by simp⟩
 ·cases o
  case add=>exact⟨_,_,fun k h n=>Iff.rfl⟩
  case eql=>exact⟨True,_,fun k h n=>by rw [true_and]⟩
  case neq=>exact⟨True,_,fun k h n=>by rw [true_and]⟩
  case lss=>exact⟨True,_,fun k h n=>by rw [true_and]⟩
  case geq=>exact⟨True,_,fun k h n=>by rw [true_and]⟩
  case leq=>exact⟨True,_,fun k h n=>by rw [true_and]⟩
  case gtr=>exact⟨True,_,fun k h n=>by rw [true_and]⟩
  all_goals exact⟨False,.undef,fun k h n=>by simp⟩
 ·exact A4H
theorem D0d(o:UnOp)(x:V): ∃(p:Prop) (v:V),∀(k:Res) h n,unK o x k h n↔p∧k v h n:=by
 unfold unK
 split
 ·unfold u2;exact⟨_,_,fun k h n=>Iff.rfl⟩
 ·exact Yo
 ·exact Yo
 ·exact A4H
theorem C5d{ao:AO}(h:cls ao≤1)(s:St): ∃d v,D2E P ao s d v:=by
 have q: ∀{ao:AO},cls ao=0→(∃(d:Prop) (v:V),∀(k:Res) h n,C3 P ao ⟨s.sl,h,n⟩ k↔d∧k v h n)→ ∃d v,D2E P ao s d v:=fun _ ⟨d,v,u⟩=>⟨d,v,fun k h n _=>u k h n⟩
 have w: ∀{ao:AO},cls ao=1→(∃(d:Prop) (v:V),∀(k:Res) n,C3 P ao ⟨s.sl,s.h,n⟩ k↔d∧k v s.h n)→ ∃d v,D2E P ao s d v:=fun D ⟨d,v,u⟩=>⟨d,v,fun k h n A=>by
  rcases A with A|rfl
  ·rw [D]at A;cases A
  ·exact u k n⟩
 have C: ∀(o:Option V),∃(d:Prop) (v:V),∀(k:Res) (n:Nat),S7 o k s.h n↔d∧k v s.h n:=fun o=>let ⟨p,v,u⟩:=Q8 o;⟨p,v,fun k n=>u k s.h n⟩
 cases ao<;>simp only [cls]at h<;>try omega
 case mov x=>
  have g: ∀h n,(⟨s.sl,h,n⟩:St).ev x=s.ev x:=fun h n=>E1.ev fun _ _=>rfl
  exact q rfl ⟨True,s.ev x,fun k h n=>by rw [true_and];simp only [C3,g]⟩
 case pick c a b=>
  refine q rfl ?_
  have l: ∀h n,(⟨s.sl,h,n⟩:St).ev c=s.ev c:=fun h n=>E1.ev fun _ _=>rfl
  have g: ∀h n,(⟨s.sl,h,n⟩:St).ev a=s.ev a:=fun h n=>E1.ev fun _ _=>rfl
  have r: ∀h n,(⟨s.sl,h,n⟩:St).ev b=s.ev b:=fun h n=>E1.ev fun _ _=>rfl
  simp only [C3,l,g,r]
  exact Q8 _
 case nilck x=>
  exact JF
 case build z ps=>
  refine q rfl ?_
  have e: ∀h n,A4u ⟨s.sl,h,n⟩ z ps=A4u s z ps:=fun h n=>E1.fill fun _ _=>rfl
  simp only [C3,e]
  exact Q8 _
 case mkisl sz xs=>
  refine q rfl ?_
  have e: ∀h n,O8 sz ⟨s.sl,h,n⟩ xs=O8 sz ⟨s.sl,[],0⟩ xs:=fun h n=>E1.rows fun _ _=>rfl
  simp only [C3,e]
  unfold C1m
  split
  ·exact Yo
  ·exact A4H
 case faddr off x=>
  exact JF
 case iaddrA len sz x i=>
  refine q rfl ?_
  simp only [C3]
  have g: ∀h n,(⟨s.sl,h,n⟩:St).ev x=s.ev x:=fun h n=>E1.ev fun _ _=>rfl
  have r: ∀h n,(⟨s.sl,h,n⟩:St).ev i=s.ev i:=fun h n=>E1.ev fun _ _=>rfl
  simp only [g,r]
  unfold A3M
  split
  ·split
   ·exact⟨_,_,fun k h n=>af2⟩
   ·exact⟨_,_,fun k h n=>af2⟩
   ·exact A4H
  ·exact A4H
 case fld off m agg x=>
  exact JF
 case idx x i=>
  refine q rfl ?_
  simp only [C3]
  have g: ∀h n,(⟨s.sl,h,n⟩:St).ev x=s.ev x:=fun h n=>E1.ev fun _ _=>rfl
  have r: ∀h n,(⟨s.sl,h,n⟩:St).ev i=s.ev i:=fun h n=>E1.ev fun _ _=>rfl
  simp only [g,r]
  unfold B9K
  split
  ·rename_i b _ z _ _
   obtain⟨p,v,u⟩:=Q8 ((b[z.toNat]?).map fun b=> .int .u8 b.toNat)
   exact⟨_∧p,v,fun k h n=>by rw [and_assoc,←u k h n]⟩
  ·exact A4H
 case ext i x=>
  exact JF
 case bin op x y=>
  refine q rfl ?_
  have l: ∀h n,(⟨s.sl,h,n⟩:St).ev x=s.ev x:=fun h n=>E1.ev fun _ _=>rfl
  have g: ∀h n,(⟨s.sl,h,n⟩:St).ev y=s.ev y:=fun h n=>E1.ev fun _ _=>rfl
  simp only [C3,l,g]
  exact C5Q _ _ _
 case idxA len sz m agg x y=>
  refine q rfl ?_
  have l: ∀h n,(⟨s.sl,h,n⟩:St).ev x=s.ev x:=fun h n=>E1.ev fun _ _=>rfl
  have g: ∀h n,(⟨s.sl,h,n⟩:St).ev y=s.ev y:=fun h n=>E1.ev fun _ _=>rfl
  simp only [C3,l,g]
  unfold B0a
  split
  ·rename_i E _ z _ _
   obtain⟨p,v,u⟩:=Q8 (S5 E (z.toNat*sz) m agg)
   exact⟨_∧_∧p,v,fun k h n=>by rw [u k h n];exact af3⟩
  ·exact A4H
 case eqp kd neg x y=>
  exact XC
 case eqa neg t x y=>
  exact XC
 case un op x=>
  refine q rfl ?_
  have l: ∀h n,(⟨s.sl,h,n⟩:St).ev x=s.ev x:=fun h n=>E1.ev fun _ _=>rfl
  simp only [C3,l]
  exact D0d _ _
 case conv j x=>
  exact JF
 case mm mx xs=>
  refine q rfl ?_
  have e: ∀h n,xs.map (⟨s.sl,h,n⟩:St).ev=xs.map s.ev:=fun h n=>E1.evs fun _ _=>rfl
  simp only [C3,e]
  exact Q8 _
 case mkfn f xs=>
  refine q rfl ?_
  have e: ∀h n,xs.map (⟨s.sl,h,n⟩:St).ev=xs.map s.ev:=fun h n=>E1.evs fun _ _=>rfl
  simp only [C3,e]
  exact Yo
 case sls x lo hi=>
  refine q rfl ?_
  have g: ∀h n,(⟨s.sl,h,n⟩:St).ev x=s.ev x:=fun h n=>E1.ev fun _ _=>rfl
  have r: ∀h n,lo.map (⟨s.sl,h,n⟩:St).ev=lo.map s.ev:=fun h n=>E1.evo fun _ _=>rfl
  have B: ∀h n,hi.map (⟨s.sl,h,n⟩:St).ev=hi.map s.ev:=fun h n=>E1.evo fun _ _=>rfl
  simp only [C3,g,r,B]
  unfold B5i
  split
  ·split
   ·exact⟨_,_,fun k h n=>af3⟩
   ·exact A4H
  ·exact A4H
 case load m agg x=>
  exact Yh
 case len kd x=>
  exact Yh
 case iaddr sz x i=>
  refine w rfl ?_
  simp only [C3]
  have g: ∀h n,(⟨s.sl,h,n⟩:St).ev x=s.ev x:=fun h n=>E1.ev fun _ _=>rfl
  have r: ∀h n,(⟨s.sl,h,n⟩:St).ev i=s.ev i:=fun h n=>E1.ev fun _ _=>rfl
  simp only [g,r]
  unfold A3C
  split
  ·split
   ·exact⟨_,_,fun k n=>af3⟩
   ·exact⟨_,_,fun k n=>af3⟩
   ·exact Xu
  ·exact Xu
 case slc sz x lo hi=>
  refine w rfl ?_
  have g: ∀h n,(⟨s.sl,h,n⟩:St).ev x=s.ev x:=fun h n=>E1.ev fun _ _=>rfl
  have r: ∀h n,lo.map (⟨s.sl,h,n⟩:St).ev=lo.map s.ev:=fun h n=>E1.evo fun _ _=>rfl
  have B: ∀h n,hi.map (⟨s.sl,h,n⟩:St).ev=hi.map s.ev:=fun h n=>E1.evo fun _ _=>rfl
  simp only [C3,g,r,B]
  unfold B3i
  split
  ·split
   ·exact⟨_,_,fun k n=>af4⟩
   ·exact Xu
  ·split
   ·exact⟨_,_,fun k n=>af4⟩
   ·exact Xu
  ·split
   ·exact⟨_,_,fun k n=>af2⟩
   ·exact Xu
  ·exact Xu
 case look kd z ok m x=>
  refine w rfl ?_
  have g: ∀h n,(⟨s.sl,h,n⟩:St).ev m=s.ev m:=fun h n=>E1.ev fun _ _=>rfl
  have r: ∀h n,(⟨s.sl,h,n⟩:St).ev x=s.ev x:=fun h n=>E1.ev fun _ _=>rfl
  simp only [C3,g,r]
  unfold A9l
  split
  ·exact⟨_,_,fun k n=>Iff.rfl⟩
  ·split
   ·exact⟨_,_,fun k n=>af2⟩
   ·exact Xu
  ·exact Xu
end
end Go.Abs
namespace Go.Abs
def Eqv(s s':St):Prop:=(∀i,D9 s.sl i=D9 s'.sl i)∧s.h=s'.h∧s.n=s'.n
def A6q(K:St→Prop):Prop:= ∀s s',Eqv s s'→K s→K s'
theorem Eqv.refl(s:St):Eqv s s:=⟨fun _=>rfl,rfl,rfl⟩
theorem Eqv.symm{s s':St}(h:Eqv s s'):Eqv s' s:=⟨fun i=>(h.1 i).symm,h.2.1.symm,h.2.2.symm⟩
def A1r(i:AI):List Nat:=A5C i.o++(match i.g with|some q=> [q.1]|none=> [])
def upd(s:St)(d:Option Nat)(v:V):St:=
 match d with
 |some d=>⟨I2 s.sl d v,s.h,s.n⟩
 |none=>s
section
variable {P:Program}
theorem A5z{sl sl':List (Nat×V)}(h: ∀i,D9 sl i=D9 sl' i)(d:Nat)(v:V)(i:Nat):D9 (I2 sl d v) i=D9 (I2 sl' d v) i:=by
 rw [I6,I6,h]
theorem B2r{d:Option Nat}{sl:List (Nat×V)}{K K':St→Prop}(h: ∀s,K s→K' s): ∀v hp n,fin d sl K v hp n→fin d sl K' v hp n:=by
 intro v hp n hk
 cases d with
 |none=>exact h _ hk
 |some d=>exact h _ hk
theorem A5A{i:AI}{s:St}{K K':St→Prop}(h: ∀s,K s→K' s)(hk:G4 P i s K):G4 P i s K':=by
 unfold G4 at hk⊢
 split at hk
 ·exact d8 (B2r h) hk
 ·unfold stepG at hk⊢
  split at hk
  ·exact⟨fun a=>d8 (B2r h) (hk.1 a),fun a=>B2r h _ _ _ (hk.2 a)⟩
  ·exact⟨hk.1,B2r h _ _ _ hk.2⟩
  ·exact hk
theorem B2s{d:Option Nat}{sl sl':List (Nat×V)}{K:St→Prop}(a:A6q K)(h: ∀i,D9 sl i=D9 sl' i): ∀v hp n,fin d sl K v hp n→fin d sl' K v hp n:=by
 intro v hp n hk
 cases d with
 |none=>exact a ⟨sl,hp,n⟩ ⟨sl',hp,n⟩ ⟨h,rfl,rfl⟩ hk
 |some d=>exact a ⟨I2 sl d v,hp,n⟩ ⟨I2 sl' d v,hp,n⟩ ⟨fun i=>A5z h d v i,rfl,rfl⟩ hk
theorem A8X{i:AI}{s s':St}{K:St→Prop}(a:A6q K)(h:Eqv s s')(hk:G4 P i s K):G4 P i s' K:=by
 unfold G4 at hk⊢
 split at hk
 ·rw [←A0t (fun i _=>h.1 i) h.2.1 h.2.2]
  exact d8 (B2s a h.1) hk
 ·rename_i j w _
  rw [←h.1 j]
  unfold stepG at hk⊢
  split at hk
  ·refine⟨fun b=> ?_,fun b=> ?_⟩
   ·have:=hk.1 b
    rw [A0t (s:=⟨I2 s.sl j (.bool w),s.h,s.n⟩) (s':=⟨I2 s'.sl j (.bool w),s'.h,s'.n⟩) (fun i _=>A5z h.1 j _ i) h.2.1 h.2.2]at this
    exact d8 (B2s a fun i=>A5z h.1 j _ i) this
   ·have:=hk.2 b
    rw [←h.2.1,←h.2.2]
    exact B2s a (fun i=>A5z h.1 j _ i) _ _ _ this
  ·refine⟨hk.1,?_⟩
   rw [←h.2.1,←h.2.2]
   exact B2s a h.1 _ _ _ hk.2
  ·exact hk
theorem B7L: ∀{l:List AI} {s:St} {K K':St→Prop},(∀s,K s→K' s)→A6r P l s K→A6r P l s K'
 | [],_,_,_,h,hk=>h _ hk
 |_::_,_,_,_,h,hk=>A5A (fun _=>B7L h) hk
theorem A6T: ∀{l:List AI} {K:St→Prop},A6q K→A6q fun s=>A6r P l s K
 | [],_,hK=>hK
 |_::_,_,hK=>fun _ _ h hk=>A8X (A6T hK) h hk
theorem d7{sl:List (Nat×V)}{j:Nat}{v:V}(h:D9 sl j=v)(i:Nat):D9 (I2 sl j v) i=D9 sl i:=by
 rw [I6]
 split
 ·rename_i e;rw [←e,h]
 ·rfl
theorem A8o{i:AI}(D:cls i.o≤1)(s:St): ∃(p:Prop) (v:V),∀s',E1 (A1r i) s s'→(cls i.o=0∨s'.h=s.h)→ ∀K,A6q K→(G4 P i s' K↔p∧K (upd s' i.d v)):=by
 obtain⟨d,g,ao⟩:=i
 have f: ∀(s':St) (K:St→Prop) (v:V),fin d s'.sl K v s'.h s'.n↔K (upd s' d v):=by
  intro s' K v
  cases d<;>exact Iff.rfl
 cases g with
 |none=>
  obtain⟨p,v,z⟩:=C5d (P:=P) D s
  refine⟨p,v,fun s' c o K _=> ?_⟩
  have n:E1 (A5C ao) s s':=c.left
  have e:C3 P ao s' (fin d s'.sl K)=C3 P ao ⟨s.sl,s'.h,s'.n⟩ (fin d s'.sl K):=A0t (fun i A=>(n i A).symm) rfl rfl
  show C3 P ao s' (fin d s'.sl K)↔_
  rw [e,z _ _ _ o,f]
 | some q=>
  obtain⟨j,w⟩:=q
  have x: ∀s',E1 (A1r ⟨d,some (j,w),ao⟩) s s'→D9 s.sl j=D9 s'.sl j:=fun s' c=>c j (by simp [A1r])
  by_cases k: ∃b,D9 s.sl j= .bool b
  ·obtain⟨b,k⟩:=k
   by_cases r:b=w
   ·subst r
    obtain⟨p,v,z⟩:=C5d (P:=P) D ⟨I2 s.sl j (.bool b),s.h,s.n⟩
    refine⟨p,v,fun s' c o K m=> ?_⟩
    have a:D9 s'.sl j= .bool b:=by rw [←x s' c];exact k
    have n:E1 (A5C ao) s s':=c.left
    have e:C3 P ao ⟨I2 s'.sl j (.bool b),s'.h,s'.n⟩ (fin d (I2 s'.sl j (.bool b)) K)=C3 P ao ⟨I2 s.sl j (.bool b),s'.h,s'.n⟩ (fin d (I2 s'.sl j (.bool b)) K):=
     A0t (fun i A=>by simp only [d7 a,d7 k];exact(n i A).symm) rfl rfl
    have B:G4 P ⟨d,some (j,b),ao⟩ s' K↔C3 P ao ⟨I2 s'.sl j (.bool b),s'.h,s'.n⟩ (fin d (I2 s'.sl j (.bool b)) K):=by
     simp only [G4,stepG,a]
     constructor
     ·intro h;exact h.1 trivial
     ·intro h;exact⟨fun _=>h,fun k=>by cases b<;>simp at k⟩
    rw [B,e,z _ _ _ o]
    refine and_congr_right fun _=> ?_
    rw [f ⟨I2 s'.sl j (.bool b),s'.h,s'.n⟩ K v]
    have t:Eqv (upd ⟨I2 s'.sl j (.bool b),s'.h,s'.n⟩ d v) (upd s' d v):=by
     cases d with
     |none=>exact⟨fun i=>d7 a i,rfl,rfl⟩
     |some d=>exact⟨fun i=>A5z (d7 a) d v i,rfl,rfl⟩
    exact⟨m _ _ t,m _ _ t.symm⟩
   ·have l:b= !w:=by cases b<;>cases w<;>simp_all
    refine⟨True,.cst Go.undef,fun s' c o K m=> ?_⟩
    have a:D9 s'.sl j= .bool b:=by rw [←x s' c];exact k
    have B:G4 P ⟨d,some (j,w),ao⟩ s' K↔fin d (I2 s'.sl j (.bool !w)) K (.cst Go.undef) s'.h s'.n:=by
     simp only [G4,stepG,a]
     constructor
     ·intro h;exact h.2 l
     ·intro h;exact⟨fun k=>(r k).elim,fun _=>h⟩
    rw [B,true_and,←l,f ⟨I2 s'.sl j (.bool b),s'.h,s'.n⟩ K (.cst Go.undef)]
    have t:Eqv (upd ⟨I2 s'.sl j (.bool b),s'.h,s'.n⟩ d (.cst Go.undef)) (upd s' d (.cst Go.undef)):=by
     cases d with
     |none=>exact⟨fun i=>d7 a i,rfl,rfl⟩
     |some d=>exact⟨fun i=>A5z (d7 a) d (.cst Go.undef) i,rfl,rfl⟩
    exact⟨m _ _ t,m _ _ t.symm⟩
  ·by_cases y: ∃u,D9 s.sl j= .cst u
   ·obtain⟨u,y⟩:=y
    refine⟨B2H u=true,.cst Go.undef,fun s' c o K m=> ?_⟩
    have a:D9 s'.sl j= .cst u:=by rw [←x s' c];exact y
    simp only [G4,stepG,a,f s' K (.cst Go.undef)]
   refine⟨False,.undef,fun s' c o K m=> ?_⟩
   have a: ∀b,D9 s'.sl j≠ .bool b:=fun b h=>k ⟨b,by rw [x s' c];exact h⟩
   have C: ∀u,D9 s'.sl j≠ .cst u:=fun b h=>y ⟨b,by rw [x s' c];exact h⟩
   rw [false_and,iff_false]
   intro h
   simp only [G4]at h
   cases hs:D9 s'.sl j<;>rw [hs]at h<;>first
    |exact a _ hs
    |exact C _ hs
    |exact h
theorem D3m{j:AI}{s:St}{d:Nat}{v:V}{K:St→Prop}(C:A6q K)(z:d∉A1r j)(D:j.d≠some d)(h:G4 P j (upd s (some d) v) K):G4 P j s fun y=>K (upd y (some d) v):=by
 have k: ∀(m:List (Nat×V)) (r:V) (hp:A2) (n:Nat) (a:List (Nat×V)),(∀i,D9 a i=D9 (I2 m d v) i)→fin j.d a K r hp n→fin j.d m (fun y=>K (upd y (some d) v)) r hp n:=by
  intro m r hp n a B p
  cases hjd:j.d with
  |none=>rw [hjd]at p;exact C ⟨a,hp,n⟩ ⟨I2 m d v,hp,n⟩ ⟨B,rfl,rfl⟩ p
  | some e=>
   rw [hjd]at p
   refine C ⟨I2 a e r,hp,n⟩ ⟨I2 (I2 m e r) d v,hp,n⟩ ⟨fun i=> ?_,rfl,rfl⟩ p
   have u:e≠d:=fun h=>D (by rw [hjd,h])
   simp only [I6,B]
   split
   ·split
    ·rename_i g x;exact(u (g.trans x.symm)).elim
    ·rfl
   ·rfl
 unfold G4 at h⊢
 split at h
 ·have A:E1 (A5C j.o) (upd s (some d) v) s:=fun i t=>by
   simp only [upd,I6]
   rw [if_neg]
   rintro rfl
   exact z (by simp [A1r,t])
  rw [A0t A rfl rfl]at h
  exact d8 (fun r hp n=>k s.sl r hp n _ fun _=>rfl) h
 ·rename_i f w E
  have o:f≠d:=fun e=>z (by simp [A1r,E,e])
  have l:D9 (upd s (some d) v).sl f=D9 s.sl f:=by simp only [upd,I6];rw [if_neg (fun e=>o e.symm)]
  rw [l]at h
  have c: ∀b,∀i,D9 (I2 (upd s (some d) v).sl f b) i=D9 (I2 (I2 s.sl f b) d v) i:=by
   intro b i
   simp only [upd,I6]
   split
   ·split
    ·rename_i g x;exact(o (g.trans x.symm)).elim
    ·rfl
   ·rfl
  unfold stepG at h⊢
  split at h
  ·refine⟨fun q=> ?_,fun q=> ?_⟩
   ·have g:=h.1 q
    have A:E1 (A5C j.o) ⟨I2 (upd s (some d) v).sl f (.bool w),s.h,s.n⟩ ⟨I2 s.sl f (.bool w),s.h,s.n⟩:=fun i t=>by
     simp only [c,I6]
     rw [if_neg]
     rintro rfl
     exact z (by simp [A1r,t])
    rw [show (upd s (some d) v).h=s.h from rfl,show (upd s (some d) v).n=s.n from rfl,A0t A rfl rfl]at g
    exact d8 (fun r hp n=>k (I2 s.sl f (.bool w)) r hp n _ (c _)) g
   ·exact k (I2 s.sl f (.bool !w)) _ _ _ _ (c _) (h.2 q)
  ·exact⟨h.1,k s.sl _ _ _ _ (fun _=>rfl) h.2⟩
  ·exact h
theorem B7i{ao:AO}{s:St}{k:Res}(h:C3 P ao s k):C3 P ao s fun r hp n=>k r hp n∧(keeps ao=true→hp=s.h):=by
 cases hk:keeps ao with
 |false=>exact d8 (fun r hp n hk=>⟨hk,fun h=>by cases h⟩) h
 | true=>
  cases ao<;>simp only [keeps]at hk<;>try (cases hk;done)
  case pcall=>
   obtain⟨r,a,b⟩:=h
   exact⟨r,a,b,fun _=>rfl⟩
  case eqn fn neg x=>
   have h:A8h fn neg (s.ev x) k s.h s.n:=h
   simp only [C3]
   unfold A8h at h⊢
   split at h
   ·exact⟨h,fun _=>rfl⟩
   ·exact⟨⟨h.1,fun _=>rfl⟩,fun e=>⟨h.2 e,fun _=>rfl⟩⟩
   ·exact⟨⟨h.1,fun _=>rfl⟩,fun e=>⟨h.2 e,fun _=>rfl⟩⟩
   ·exact⟨h,fun _=>rfl⟩
   ·exact⟨h,fun _=>rfl⟩
   ·exact h.elim
theorem C4w{j:AI}{s:St}{K:St→Prop}(t:A6q K)(h:G4 P j s K):G4 P j s fun g=>K g∧(∀x,j.d≠some x→D9 g.sl x=D9 s.sl x)∧(cls j.o≤1∨keeps j.o=true→g.h=s.h):=by
 by_cases o:cls j.o≤1
 ·obtain⟨C,v,f⟩:=A8o (P:=P) o s
  have u:=(f s (fun _ _=>rfl) (.inr rfl) K t).1 h
  refine(f s (fun _ _=>rfl) (.inr rfl) _ ?_).2 ⟨u.1,u.2,fun x m=> ?_,fun _=> ?_⟩
  ·rintro a b l ⟨B,z,A⟩
   exact⟨t _ _ l B,fun x m=>by rw [←l.1 x];exact z x m,fun o=>by rw [←l.2.1];exact A o⟩
  ·cases hjd:j.d with
   |none=>rfl
   |some d=>
    simp only [upd,I6]
    rw [if_neg]
    rintro rfl
    exact m hjd
  ·cases j.d<;>rfl
 ·have k: ∀(q:List (Nat×V)) (r:V) (hp:A2) (n:Nat),(∀i,D9 q i=D9 s.sl i)→(keeps j.o=true→hp=s.h)→fin j.d q K r hp n→
    fin j.d q (fun g=>K g∧(∀x,j.d≠some x→D9 g.sl x=D9 s.sl x)∧(cls j.o≤1∨keeps j.o=true→g.h=s.h)) r hp n:=by
   intro q r hp n l p f
   cases hjd:j.d with
   |none=>rw [hjd]at f;exact⟨f,fun x _=>l x,fun h=>h.elim (fun h=>(o h).elim) p⟩
   |some d=>
    rw [hjd]at f
    refine⟨f,fun x m=> ?_,fun h=>h.elim (fun h=>(o h).elim) p⟩
    simp only [I6]
    rw [if_neg (fun e=>m zm),l]
  unfold G4 at h⊢
  split at h
  ·exact d8 (fun r hp n hk=>k s.sl r hp n (fun _=>rfl) hk.2 hk.1) (B7i h)
  ·rename_i D w _
   unfold stepG at h⊢
   split at h
   ·rename_i b y
    refine⟨fun c=> ?_,fun c=> ?_⟩
    ·refine d8 (fun r hp n hk=>k _ r hp n (fun i=> ?_) hk.2 hk.1) (B7i (h.1 c))
     exact d7 (by rw [y,c]) i
    ·exact k _ _ _ _ (fun i=>d7 (by rw [y,c]) i) (fun _=>rfl) (h.2 c)
   ·exact⟨h.1,k s.sl _ _ _ (fun _=>rfl) (fun _=>rfl) h.2⟩
   ·exact h
def B1b(d:Option Nat)(l:List Nat):Bool:=
 match d with
 |some d=> !l.contains d
 |none=>true
def apart:Option Nat→Option Nat→Bool
 |some a,some b=> !(a==b)
 |_,_=>true
def B0h(a i:AI):Bool:=Nat.ble (cls a.o) 1&&(Nat.beq (cls a.o) 0||(Nat.ble (cls i.o) 1||keeps i.o))&&B1b a.d (A1r i)&&apart a.d i.d&&B1b i.d (A1r a)
theorem D8a{a i:AI}{s:St}{K:St→Prop}(c:B0h a i=true)(k:A6q K)(h:G4 P a s fun r=>G4 P i r K):G4 P i s fun f=>G4 P a f K:=by
 unfold B0h at c
 simp only [Bool.and_eq_true]at c
 obtain⟨⟨⟨⟨D,C⟩,u⟩,p⟩,m⟩:=c
 have B:=Nat.le_of_ble_eq_true D
 obtain⟨z,v,t⟩:=A8o (P:=P) B s
 have n:A6q fun r=>G4 P i r K:=fun _ _ b hk=>A8X k b hk
 obtain⟨g,j⟩:=(t s (fun _ _=>rfl) (.inr rfl) _ n).1 h
 have l:G4 P i s fun f=>K (upd f a.d v):=by
  cases had:a.d with
  |none=>rw [had]at j;exact j
  | some d=>
   rw [had]at j u p
   refine D3m k ?_ ?_ j
   ·simpa [B1b]using u
   ·intro b
    rw [b]at p
    simp [apart]at p
 have o:A6q fun f=>K (upd f a.d v):=by
  intro x y b hk
  refine k _ _ ?_ hk
  cases a.d with
  |none=>exact b
  |some d=>exact⟨fun q=>A5z b.1 d v q,b.2.1,b.2.2⟩
 refine A5A ?_ (C4w o l)
 rintro f ⟨w,E,F⟩
 refine(t f (fun x A=>(E x fun e=> ?_).symm) ?_ K k).2 ⟨g,w⟩
 ·rw [e]at m
  simp [B1b]at m
  exact m A
 ·rcases Bool.or_eq_true _ _ ▸ C with h|h
  ·exact .inl (Nat.eq_of_beq_eq_true h)
  ·exact .inr (F ((Bool.or_eq_true _ _ ▸ h).imp Nat.le_of_ble_eq_true id))
theorem A6r.vf: ∀{l:List AI} {s:St} {K:St→Prop},A6r P l s K→VF P l s K
 | [],_,_,h=>h
 |_::_,_,_,h=>fun _=>A5A (fun _ h=>A6r.vf h) h
def C1j(a:AI):Bool:=
 match a with
 |⟨some _,none,.box ..⟩|⟨some _,none,.mkrow ..⟩=>true
 |_=>false
def C5h(i:AI):Bool:=
 match i with
 |⟨_,none,.load _ _ (.t _)⟩|⟨_,none,.iaddr _ (.t _) _⟩|⟨_,none,.len _ (.t _)⟩=>true
 |_=>false
def C3z(i:AI):Bool:=Nat.beq (cls i.o) 0||C5h i
def B0H(a i:AI):Bool:=C1j a&&C3z i&&B1b a.d (A1r i)&&apart a.d i.d&&B1b i.d (A1r a)
def ok2(a i:AI):Bool:=B0h a i||B0H a i
def B2F(o:AO)(s:St):Option (V×Nat×Blk):=
 match o with
 | .box nm sz x=>match A3y (s.ev x)with
  |some cs=>bif Nat.beq cs.length sz then some (.ptr nm s.n 0 0,nm,.rows sz [cs])else none
  |none=>none
 | .mkrow nm sz xs=>match O8 sz s xs with
  |some rs=>some (.sl nm s.n 0 rs.length,nm,.rows sz rs)
  |none=>none
 |_=>none
def D7V(s:St)(d:Option Nat)(K:St→Prop):Option (V×Nat×Blk)→Prop
 |some q=>K (upd ⟨s.sl,A2.put s.h q.2.1 s.n q.2.2,s.n+1⟩ d q.1)
 |none=>False
theorem B9S{a:AI}(h:C1j a=true)(s:St)(K:St→Prop):G4 P a s K↔D7V s a.d K (B2F a.o s):=by
 obtain⟨d,g,o⟩:=a
 cases d with
 |none=>cases h
 |some d=>
 cases g with
 |some q=>cases h
 |none=>
 cases o<;>try (cases h;done)
 case box nm sz x=>
  simp only [G4,C3,B7x,B2F]
  cases A3y (s.ev x)with
  |none=>exact Iff.rfl
  | some c=>
   simp only
   cases hb:Nat.beq c.length sz with
   |true=>
    have e:=Nat.eq_of_beq_eq_true hb
    exact⟨fun h=>h.2,fun h=>⟨e,h⟩⟩
   |false=>
    refine⟨fun h=> ?_,fun h=>h.elim⟩
    rw [h.1,Nat.beq_refl]at hb;cases hb
 case mkrow nm sz xs=>
  simp only [G4,C3,C2l,B2F]
  cases O8 sz s xs<;>exact Iff.rfl
theorem C1G{o:AO}{s s':St}(h:E1 (A5C o) s s')(a:s.n=s'.n):B2F o s=B2F o s':=by
 cases o<;>try rfl
 case box=>simp only [A5C]at h;simp only [B2F,h.ev,a]
 case mkrow=>simp only [A5C]at h;simp only [B2F,h.rows,a]
theorem A2.get_old{h:A2}{nm n b st:Nat}{x y:Blk}(d:st<n)(a:A2.get (A2.put h nm n x) b st=some y):A2.get h b st=some y:=by
 unfold A2.put at a
 rw [A2.get]at a
 cases hb:Nat.beq nm b with
 |true=>
  have c: ¬n=st:=by omega
  simp only [hb,cond_true,if_neg c]at a;cases a
 | false=>
  rw [hb,cond_false]at a
  clear d
  induction h with
  |nil=>exact a
  | cons e r i=>
   unfold A2.del at a i
   rw [List.filter_cons]at a
   rw [A2.get]
   cases he:Nat.beq e.1 nm with
   | true=>
    rw [he]at a
    have:Nat.beq e.1 b=false:=by
     rw [Nat.eq_of_beq_eq_true he];exact hb
    rw [this,cond_false]
    exact i a
   |false=>
    rw [he]at a
    simp only [Bool.not_false,if_true]at a
    rw [A2.get]at a
    cases hc:Nat.beq e.1 b with
    |true=>rw [hc,cond_true]at a;exact a
    |false=>rw [hc,cond_false]at a;exact i a
theorem C6K{h:A2}{nm n m:Nat}{c:Bool}{x:Blk}{v r:V}(d:frB n v)(a:A4w (A2.put h nm n x) v m c=some r):A4w h v m c=some r:=by
 cases v<;>try exact a
 case ptr b st i j=>
  simp only [A4w]at a⊢
  cases hg:A2.get (A2.put h nm n x) b st with
  |none=>rw [hg]at a;cases a
  |some y=>rw [hg]at a;rw [A2.get_old d hg];exact a
theorem C8R{h:A2}{nm n c:Nat}{x:Blk}{v r:V}(d:frB n v)(a:B6p (A2.put h nm n x) c v=some r):B6p h c v=some r:=by
 match c,a with
 |0,a=>cases v<;>exact a
 |1,a=>cases v<;>exact a
 | 2,a=>
  cases v with
  |mp b s=>
   simp only [B6p]at a⊢
   cases hg:A2.get (A2.put h nm n x) b s with
   |none=>rw [hg]at a;cases a
   |some y=>rw [hg]at a;rw [A2.get_old d hg];exact a
  |_=>exact a
 |k+3,a=>cases v<;>exact a
theorem C8V{i:AI}(l:C3z i=true){s:St}(D: ∀q∈A1r i,frB s.n (D9 s.sl q)){e:List (Nat×V)}(H: ∀q∈A1r i,D9 e q=D9 s.sl q){nm n:Nat}{c:Blk}{k:St→Prop}(E:A6q k)
  (h:G4 P i ⟨e,A2.put s.h nm s.n c,n⟩ k): ∃v,(∀K:St→Prop,A6q K→K (upd s i.d v)→G4 P i s K)∧k (upd ⟨e,A2.put s.h nm s.n c,n⟩ i.d v):=by
 by_cases F:cls i.o=0
 ·obtain⟨I,v,f⟩:=A8o (P:=P) (i:=i) zd s
  obtain⟨A,a⟩:=(f _ (fun q j=>(H q j).symm) (.inl F) k E).1 h
  exact⟨v,fun K J hk=>(f s (fun _ _=>rfl) (.inl F) K J).2 ⟨A,hk⟩,a⟩
 replace l:C5h i=true:=by
  unfold C3z at l
  rcases Bool.or_eq_true _ _ ▸ l with h|h
  ·exact(F (Nat.eq_of_beq_eq_true h)).elim
  ·exact h
 obtain⟨d,g,o⟩:=i
 have B: ∀(s:St) (K:St→Prop) (v:V),K (upd s d v)→fin d s.sl K v s.h s.n:=fun s K v h=>by cases d<;>exact h
 have C: ∀(s:St) (K:St→Prop) (v:V),fin d s.sl K v s.h s.n→K (upd s d v):=fun s K v h=>by cases d<;>exact h
 cases g with
 |some q=>cases o<;>cases l
 |none=>
 have u:E1 (A5C o) ⟨e,A2.put s.h nm s.n c,n⟩ ⟨s.sl,A2.put s.h nm s.n c,n⟩:=fun q j=>H q (by simp [A1r,j])
 have a:C3 P o ⟨s.sl,A2.put s.h nm s.n c,n⟩ (fin d e k):=by
  rw [←A0t u rfl rfl];exact h
 clear h u
 cases o<;>try (cases l;done)
 case load m agg x=>
  cases x<;>try (cases l;done)
  rename_i q
  have j:=D q (by simp [A1r,A5C,A0v])
  change S7 (A4w (A2.put s.h nm s.n c) (D9 s.sl q) m agg) _ _ _ at a
  cases f:A4w (A2.put s.h nm s.n c) (D9 s.sl q) m agg with
  |none=>rw [f]at a;exact a.elim
  |some r=>
   rw [f]at a
   refine⟨r,fun K _ hk=> ?_,C ⟨e,_,n⟩ k r a⟩
   show S7 (A4w s.h (D9 s.sl q) m agg) _ _ _
   rw [C6K j f];exact B s K r hk
 case len kd x=>
  cases x<;>try (cases l;done)
  rename_i q
  have j:=D q (by simp [A1r,A5C,A0v])
  change S7 (B6p (A2.put s.h nm s.n c) kd (D9 s.sl q)) _ _ _ at a
  cases f:B6p (A2.put s.h nm s.n c) kd (D9 s.sl q)with
  |none=>rw [f]at a;exact a.elim
  |some r=>
   rw [f]at a
   refine⟨r,fun K _ hk=> ?_,C ⟨e,_,n⟩ k r a⟩
   show S7 (B6p s.h kd (D9 s.sl q)) _ _ _
   rw [C8R j f];exact B s K r hk
 case iaddr sz x y=>
  cases x<;>try (cases l;done)
  rename_i q
  have j:=D q (by simp [A1r,A5C,A0v])
  change A3C sz (D9 s.sl q) (s.ev y) _ _ _ at a
  have p: ∀(K:St→Prop),G4 P ⟨d,none,.iaddr sz (.t q) y⟩ s K=A3C sz (D9 s.sl q) (s.ev y) (fin d s.sl K) s.h s.n:=fun K=>rfl
  cases hy:s.ev y<;>rw [hy]at a<;>try (exact a.elim)
  rename_i L z
  cases hx:D9 s.sl q<;>rw [hx]at a j<;>try (exact a.elim)
  case sl b st i0 m=>
   obtain⟨A,a,t,G⟩:=a
   refine⟨_,fun K _ hk=> ?_,C ⟨e,_,n⟩ k _ G⟩
   rw [p,hy,hx]
   refine⟨A,a,?_,B s K _ hk⟩
   cases hg:A2.get (A2.put s.h nm s.n c) b st with
   |none=>rw [hg]at t;cases t
   |some w=>rw [hg]at t;rw [A2.get_old (j zd) hg];exact t
  case isl es=>
   obtain⟨A,a,t,G⟩:=a
   refine⟨_,fun K _ hk=> ?_,C ⟨e,_,n⟩ k _ G⟩
   rw [p,hy,hx]
   exact⟨A,a,t,B s K _ hk⟩
theorem D7l{a i:AI}{s:St}{K:St→Prop}(b:B0H a i=true)(m:A6q K)(u: ∀q∈A1r i,frB s.n (D9 s.sl q))(h:G4 P a s fun C=>G4 P i C K):G4 P i s fun y=>G4 P a y K:=by
 unfold B0H at b
 simp only [Bool.and_eq_true]at b
 obtain⟨⟨⟨⟨p,w⟩,o⟩,r⟩,g⟩:=b
 rw [B9S p]at h
 cases hn:B2F a.o s with
 |none=>rw [hn]at h;exact h.elim
 | some q=>
  rw [hn]at h
  have B: ∀x∈A1r i,D9 (upd ⟨s.sl,A2.put s.h q.2.1 s.n q.2.2,s.n+1⟩ a.d q.1).sl x=D9 s.sl x:=fun x k=>by
   cases had:a.d with
   |none=>rfl
   |some d=>
    simp only [upd,I6]
    rw [if_neg]
    rintro rfl
    rw [had]at o
    simp [B1b]at o
    exact o k
  have f:upd ⟨s.sl,A2.put s.h q.2.1 s.n q.2.2,s.n+1⟩ a.d q.1=⟨(upd ⟨s.sl,A2.put s.h q.2.1 s.n q.2.2,s.n+1⟩ a.d q.1).sl,A2.put s.h q.2.1 s.n q.2.2,s.n+1⟩:=by cases a.d<;>rfl
  have h:G4 P i (upd ⟨s.sl,A2.put s.h q.2.1 s.n q.2.2,s.n+1⟩ a.d q.1) K:=h
  rw [f]at h
  obtain⟨v,j,n⟩:=C8V w u B m h
  refine j _ (fun _ _ t hk=>A8X m t hk) ?_
  have z:upd s i.d v=⟨(upd s i.d v).sl,s.h,s.n⟩:=by cases i.d<;>rfl
  have A:E1 (A5C a.o) (upd s i.d v) s:=fun x k=>by
   cases hid:i.d with
   |none=>rfl
   |some e=>
    simp only [upd,I6]
    rw [if_neg]
    rintro rfl
    rw [hid]at g
    simp [B1b,A1r]at g
    exact g.1 k
  rw [B9S p,C1G A (by rw [z]),hn]
  show K (upd ⟨(upd s i.d v).sl,A2.put (upd s i.d v).h q.2.1 (upd s i.d v).n q.2.2,(upd s i.d v).n+1⟩ a.d q.1)
  refine m _ _ ?_ n
  cases hid:i.d with
  |none=>cases had:a.d<;>exact Eqv.refl _
  | some e=>
   cases had:a.d with
   |none=>exact Eqv.refl _
   | some d=>
    refine⟨fun x=> ?_,rfl,rfl⟩
    rw [had,hid]at r
    have l:d≠e:=fun h=>by subst h;simp [apart]at r
    simp only [upd,I6]
    by_cases c:e=x
    ·rw [if_pos c]
     rw [if_neg (fun h=>l (h.trans c.symm)),if_pos c]
    ·rw [if_neg c,if_neg c]
theorem B6x(f:Nat→AI){K:St→Prop}(c:A6q K)(i:Nat)(B:List Nat): ∀(A:List Nat) (s:St),(∀a∈A,ok2 (f a) (f i)=true)→(∀q∈A1r (f i),frB s.n (D9 s.sl q))→A6r P ((A++i::B).map f) s K→A6r P ((i::(A++B)).map f) s K
 | [],_,_,_,h=>h
 | a ::A,s,hok,hfr,h=>by
  have j:=hok a zf
  have w:=fun b m k=>B6x f c i B A b (fun x y=>hok x (by simp [y])) m k
  have o:A6q fun b=>A6r P ((A++i::B).map f) b K:=A6T c
  have p:A6q fun b=>G4 P (f i) b fun n=>A6r P ((A++B).map f) n K:=fun _ _ z hk=>A8X (A6T c) z hk
  have h:G4 P (f a) s fun b=>A6r P ((A++i::B).map f) b K:=h
  have k:G4 P (f a) s fun b=>G4 P (f i) b fun n=>A6r P ((A++B).map f) n K:=by
   rcases Bool.or_eq_true _ _ ▸ (show (B0h (f a) (f i)||B0H (f a) (f i))=true from j)with ho|ho
   ·unfold B0h at ho
    simp only [Bool.and_eq_true]at ho
    obtain⟨⟨⟨⟨l,_⟩,g⟩,_⟩,_⟩:=ho
    obtain⟨C,v,u⟩:=A8o (P:=P) (Nat.le_of_ble_eq_true l) s
    have t:=(u s (fun _ _=>rfl) (.inr rfl) _ o).1 h
    refine(u s (fun _ _=>rfl) (.inr rfl) _ p).2 ⟨t.1,w _ (fun q e=> ?_) t.2⟩
    have:=hfr q e
    cases had:(f a).d with
    |none=>exact this
    | some d=>
     simp only [upd,I6]
     rw [if_neg]
     ·exact this
     ·exact YZ
   ·unfold B0H at ho
    simp only [Bool.and_eq_true]at ho
    obtain⟨⟨⟨⟨l,_⟩,g⟩,_⟩,_⟩:=ho
    rw [B9S l]at h⊢
    cases hn:B2F (f a).o s with
    |none=>rw [hn]at h;exact h.elim
    | some r=>
     rw [hn]at h
     refine w _ (fun q e=> ?_) h
     have:=hfr q e
     cases had:(f a).d with
     |none=>exact this.mono (Nat.le_succ _)
     | some d=>
      simp only [upd,I6]
      rw [if_neg]
      ·exact this.mono (Nat.le_succ _)
      ·exact YZ
  rcases Bool.or_eq_true _ _ ▸ (show (B0h (f a) (f i)||B0H (f a) (f i))=true from j)with ho|ho
  ·exact D8a ho (A6T c) k
  ·exact D7l ho (A6T c) hfr k
theorem C5v(f:Nat→AI)(b:Nat→Nat→Prop){K:St→Prop}(m:A6q K): ∀(l T:List Nat) (s:St),T.Nodup→l.Perm T→T.Pairwise (fun a i=>ok2 (f a) (f i)=true∨b a i)→l.Pairwise (fun i a=> ¬b a i)→
  A6r P (T.map f) s K→VF P (l.map f) s K
 | [],T,s,_,hp,_,_,h=>by
  have:T= []:=hp.symm.eq_nil
  subst this
  exact h
 | i::l,T,s,hn,hp,hT,hl,h=>by
  have o:i∈T:=hp.subset zf
  obtain⟨A,B,rfl⟩:=List.append_of_mem o
  have c:l.Perm (A++B):=by
   have:(i::l).Perm (i::(A++B)):=hp.trans List.perm_middle
   exact this.cons_inv
  have d:=List.pairwise_cons.1 hl
  have g: ∀a∈A,ok2 (f a) (f i)=true:=by
   intro a n
   have j:=(List.pairwise_append.1 hT).2.2 a n i zf
   rcases j with h|h
   ·exact h
   ·exact(d.1 a (c.symm.subset (by simp [n])) h).elim
  intro e
  have k:=B6x f m i B A s g (fun q _=>e q) h
  refine A5A (fun p k=>C5v f b m l (A++B) p ?_ c ?_ d.2 k) k
  ·exact(List.perm_middle.nodup_iff.1 hn).of_cons
  ·exact hT.sublist zf
theorem B1G: ∀(l r:List Nat),l.Nodup→(∀x∈l,x∈r)→r.length≤l.length→l.Perm r
 | [],r,_,_,h=>by
  have:r= []:=List.eq_nil_of_length_eq_zero zx
  subst this;exact .nil
 | x::l,r,hn,hs,hl=>by
  obtain⟨b,c⟩:=List.nodup_cons.1 hn
  obtain⟨A,B,rfl⟩:=List.append_of_mem (hs x zf)
  have:=B1G l (A++B) c (fun y a=>by
   have:=hs y zH
   simp only [List.mem_append,List.mem_cons]at this⊢
   rcases this with h|rfl|h
   ·exact .inl h
   ·exact(b a).elim
   ·exact .inr h) (by simp at hl⊢;omega)
  exact(this.cons x).trans List.perm_middle.symm
theorem B6B: ∀(l r:List Nat),l.Nodup→(∀x∈l,x∈r)→l.length≤r.length
 | [],_,_,_=>Nat.zero_le _
 | x::l,r,hn,hs=>by
  obtain⟨b,c⟩:=List.nodup_cons.1 hn
  obtain⟨A,B,rfl⟩:=List.append_of_mem (hs x zf)
  have:=B6B l (A++B) c (fun y a=>by
   have:=hs y zH
   simp only [List.mem_append,List.mem_cons]at this⊢
   rcases this with h|rfl|h
   ·exact .inl h
   ·exact(b a).elim
   ·exact .inr h)
  simp at this⊢;omega
def B5E(m:Region.Mode)(ops:Array Oper)(a i:Nat):Prop:= ∃o e,ops[i]? =some o∧e∈o.after∧Region.binds m e=true∧e.on=a
inductive Anc (m:Region.Mode) (ops:Array Oper):Nat→Nat→Prop
 |one {a i:Nat} (h:B5E m ops a i):Anc m ops a i
 |more {a b i:Nat} (h:B5E m ops b i) (h':Anc m ops a b):Anc m ops a i
def J4(m:Region.Mode)(ops:Array Oper):List Nat→Prop
 | []=>True
 |i::t=>(∀a,B5E m ops a i→a∈t)∧J4 m ops t
theorem J4.tail{m:Region.Mode}{ops:Array Oper}: ∀{a t:List Nat},J4 m ops (a++t)→J4 m ops t
 | [],_,h=>h
 |_::_,_,h=>J4.tail h.2
theorem J4.anc{m:Region.Mode}{ops:Array Oper}{a i:Nat}(h:Anc m ops a i): ∀{t:List Nat},J4 m ops (i::t)→a∈t:=by
 induction h with
 |one h=>intro t b;exact b.1 _ h
 |more h _ c=>
  intro t b
  obtain⟨d,e,rfl⟩:=List.append_of_mem (b.1 _ h)
  have:=c (J4.tail b.2)
  simp [this]
theorem J4.pairwise{m:Region.Mode}{ops:Array Oper}: ∀{t:List Nat},J4 m ops t→t.Nodup→t.Pairwise fun a i=> ¬Anc m ops a i
 | [],_,_=> .nil
 |x::t,h,hn=>by
  obtain⟨e,c⟩:=List.nodup_cons.1 hn
  refine .cons (fun y d b=> ?_) (J4.pairwise h.2 c)
  obtain⟨f,g,rfl⟩:=List.append_of_mem d
  have:=J4.anc b (J4.tail h.2)
  exact e (by simp [this])
structure LInv(m:Region.Mode)(ops:Array Oper)(listed:Array Bool)(acc:List Nat):Prop where
 size:listed.size=ops.size
 nodup:acc.Nodup
 mem: ∀i,i∈acc↔listed[i]? =some true
 before:J4 m ops acc
theorem C5e{m:Region.Mode}{ops:Array Oper}{T:List Nat}(O:J4 m ops T)(B: ∀i,i<ops.size→i∈T)(C: ∀i∈T,i<ops.size): ∀(fuel t:Nat) (l:Array Bool) (c:List Nat),LInv m ops l c→c.length+fuel=ops.size→
  ∃g,Region.linearise.go m ops fuel t l c=g.reverse∧g.Nodup∧J4 m ops g∧g.length=ops.size∧ ∀i∈g,i<ops.size
 |0,t,l,c,f,v=>by
  refine⟨c,rfl,f.nodup,f.before,by simpa using v,fun i h=> ?_⟩
  exact YY
 | fuel+1,t,l,c,f,v=>by
  have N: ∀i∈c,i<ops.size:=fun i h=>by
   exact YY
  simp only [Region.linearise.go]
  generalize M:((List.range ops.size).filter fun i=> !l.getD i true&&((ops[i]?).map (·.after.all fun e=> !Region.binds m e||l.getD e.on false)).getD false)=s
  have D: ∀i,i∈s↔i<ops.size∧l[i]? =some false∧ ∀o,ops[i]? =some o→ ∀e∈o.after,Region.binds m e=true→l[e.on]? =some true:=by
   intro i
   rw [←M,List.mem_filter,List.mem_range]
   refine and_congr_right fun d=> ?_
   have F:i<l.size:=by rw [f.size];exact d
   rw [Bool.and_eq_true]
   have U:(!l.getD i true)=true↔l[i]? =some false:=by
    simp only [Array.getD_eq_getD_getElem?,Array.getElem?_eq_getElem F,Option.getD_some]
    cases l[i]<;>simp
   rw [U]
   refine and_congr_right fun _=> ?_
   simp only [Array.getElem?_eq_getElem d,Option.map_some,Option.getD_some,Array.all_eq_true']
   constructor
   ·rintro h o q e p k
    injection q with q
    subst q
    have:=h e p
    rw [k]at this
    simp only [Bool.not_true,Bool.false_or,Array.getD_eq_getD_getElem?]at this
    cases hq:l[e.on]? with
    |none=>rw [hq]at this;cases this
    |some b=>rw [hq]at this;simp at this;rw [this]
   ·intro h e p
    cases k:Region.binds m e with
    |false=>rfl
    |true=>simp [Array.getD_eq_getD_getElem?,h _ rfl e p k]
  have K:s≠ []:=by
   intro R
   have u: ∀t:List Nat,J4 m ops t→(∀i∈t,i<ops.size)→ ∀i∈t,i∈c:=by
    intro t
    induction t with
    |nil=>intro _ _ i f;cases f
    | cons i t V=>
     intro k v x J
     have E:=V k.2 fun y Q=>v y (List.mem_cons_of_mem _ Q)
     rcases List.mem_cons.1 J with rfl|J
     ·have d:=v x List.mem_cons_self
      have F:x<l.size:=by rw [f.size];exact d
      cases hbb:l[x]with
      |true=>exact(f.mem x).2 (by rw [Array.getElem?_eq_getElem F,hbb])
      |false=>
       have:x∈s:=(D x).2 ⟨d,by rw [Array.getElem?_eq_getElem F,hbb],fun o q e p I=>(f.mem _).1 (E _ (k.1 _ ⟨o,e,q,p,I,rfl⟩))⟩
       rw [R]at this
       cases this
     ·exact E x J
   have z: ∀i,i<ops.size→i∈c:=fun i d=>u T O C i (B i d)
   have G:(List.range ops.size).length≤c.length:=B6B _ _ List.nodup_range fun i h=>z i zx
   simp at G
   omega
  have w:0<s.length:=List.length_pos_iff.2 K
  have d:=Nat.mod_lt t w
  rw [List.getElem?_eq_getElem d]
  generalize r:s[t%s.length]=i
  have L:=(D i).1 (r ▸ List.getElem_mem d)
  obtain⟨S,P,W⟩:=L
  have A:i∉c:=fun h=>by have:=(f.mem i).1 h;rw [P]at this;cases this
  refine C5e O B C fuel _ _ _ ⟨by simp [f.size],List.nodup_cons.2 ⟨A,f.nodup⟩,fun j=> ?_,fun a ⟨o,e,q,p,k,H⟩=> ?_,f.before⟩ zl
  ·rw [List.mem_cons,f.mem,Array.getElem?_setIfInBounds]
   constructor
   ·rintro(rfl|h)
    ·rw [if_pos rfl,if_pos (by rw [f.size];exact S)]
    ·split
     ·rename_i n;rw [←n,P]at h;cases h
     ·exact h
   ·intro h
    split at h
    ·rename_i n;exact .inl n.symm
    ·exact .inr h
  ·rw [←H]
   exact(f.mem _).2 (W o q e p k)
theorem B6q{m:Region.Mode}{ops:Array Oper}{T:List Nat}(g:J4 m ops T)(d: ∀i,i<ops.size→i∈T)(b: ∀i∈T,i<ops.size)(t:Nat):(Region.linearise m ops t).Perm (List.range ops.size)∧(Region.linearise m ops t).Pairwise fun i a=> ¬Anc m ops a i:=by
 have k: ∀i,i∈([]:List Nat)↔(Array.replicate ops.size false)[i]? =some true:=fun i=>by
  simp only [List.not_mem_nil,false_iff]
  intro h
  rw [Array.getElem?_replicate]at h
  split at h
  ·simp at h
  ·cases h
 obtain⟨c,l,e,n,j,o⟩:=C5e g d b ops.size t (Array.replicate ops.size false) [] ⟨by simp,.nil,k,trivial⟩ zf
 rw [Region.linearise,l]
 constructor
 ·refine(List.reverse_perm c).trans ?_
  exact B1G _ _ e (fun i f=>by simpa using o i f) (by simp [j])
 ·rw [List.pairwise_reverse]
  exact n.pairwise e
def B5s(m:Region.Mode)(ops:Array Oper):List Nat→Bool
 | []=>true
 |i::t=>(match ops[i]? with|some o=>o.after.toList.all fun e=> !(Region.binds m e)||t.any (Nat.beq e.on)|none=>true)&&B5s m ops t
theorem A4G{m:Region.Mode}{ops:Array Oper}: ∀{t:List Nat},B5s m ops t=true→J4 m ops t
 | [],_=>trivial
 |i::t,h=>by
  simp only [B5s,Bool.and_eq_true]at h
  refine⟨?_,A4G h.2⟩
  rintro a ⟨o,e,g,j,k,rfl⟩
  have d:=h.1
  rw [g]at d
  simp only [List.all_eq_true]at d
  have b:=d e (Array.mem_toList_iff.2 j)
  rw [k]at b
  simp only [Bool.not_true,Bool.false_or,List.any_eq_true]at b
  obtain⟨x,f,c⟩:=b
  rw [Nat.eq_of_beq_eq_true c];exact f
inductive AncE (m:Region.Mode) (ops:Array Oper) (E:List (Nat×Nat)):Nat→Nat→Prop
 |one {a i:Nat} (h:B5E m ops a i∨(a,i)∈E):AncE m ops E a i
 |more {a b i:Nat} (h:B5E m ops b i∨(b,i)∈E) (h':AncE m ops E a b):AncE m ops E a i
def B4y:List (Nat×Nat)→Nat→Nat
 | [],_=>0
 |p::r,i=>bif Nat.beq p.1 i then p.2 else B4y r i
def C1A(tab:List (Nat×Nat)):List Nat→Nat
 | []=>0
 |b::r=>(2^b|||B4y tab b)|||C1A tab r
def D2m(m:Region.Mode)(ops:Array Oper)(E:List (Nat×Nat))(i:Nat):List Nat:=
 (match ops[i]? with|some o=>(o.after.toList.filter (Region.binds m)).map (·.on)|none=> [])++(E.filter fun p=>Nat.beq p.2 i).map (·.1)
def B2D(m:Region.Mode)(ops:Array Oper)(E:List (Nat×Nat)):List Nat→List (Nat×Nat)→List (Nat×Nat)
 | [],tab=>tab
 |i::r,tab=>B2D m ops E r ((i,C1A tab (D2m m ops E i))::tab)
def C2V(tab:List (Nat×Nat))(a i:Nat):Bool:=Nat.testBit (B4y tab i) a
theorem B4z{m:Region.Mode}{ops:Array Oper}{E t:List (Nat×Nat)}(c: ∀i a,(B4y t i).testBit a=true→AncE m ops E a i){i:Nat}: ∀{l:List Nat},(∀b∈l,B5E m ops b i∨(b,i)∈E)→ ∀a,(C1A t l).testBit a=true→AncE m ops E a i
 | [],_,a,h=>by simp [C1A]at h
 | b::r,hl,a,h=>by
  simp only [C1A,Nat.testBit_or,Bool.or_eq_true]at h
  rcases h with(h|h)|h
  ·rw [Nat.testBit_two_pow]at h
   have:b=a:=by simpa using h
   subst this
   exact .one (hl b List.mem_cons_self)
  ·exact .more (hl b List.mem_cons_self) (c b a h)
  ·exact B4z c (fun x d=>hl x (List.mem_cons_of_mem _ d)) a h
theorem B4A{m:Region.Mode}{ops:Array Oper}{E:List (Nat×Nat)}: ∀(T:List Nat) {t:List (Nat×Nat)},(∀i a,(B4y t i).testBit a=true→AncE m ops E a i)→ ∀i a,(B4y (B2D m ops E T t) i).testBit a=true→AncE m ops E a i
 | [],_,h=>h
 | x ::r,t,h=>B4A r fun i a d=>by
  simp only [B4y]at d
  cases c:Nat.beq x i with
  |false=>rw [c]at d;exact h i a d
  | true=>
   have:=Nat.eq_of_beq_eq_true c
   subst this
   rw [c,cond_true]at d
   refine B4z h (fun b c=> ?_) a d
   unfold D2m at c
   rcases List.mem_append.1 c with c|c
   ·split at c
    ·rename_i o j
     obtain⟨e,k,rfl⟩:=List.mem_map.1 c
     obtain⟨g,f⟩:=List.mem_filter.1 k
     exact .inl ⟨o,e,j,Array.mem_toList_iff.1 g,f,rfl⟩
    ·cases c
   ·obtain⟨p,hp,rfl⟩:=List.mem_map.1 c
    obtain⟨g,f⟩:=List.mem_filter.1 hp
    have:=Nat.eq_of_beq_eq_true f
    rw [←this]
    exact .inr g
theorem B1n{m:Region.Mode}{ops:Array Oper}{E:List (Nat×Nat)}{T:List Nat}{a i:Nat}(h:C2V (B2D m ops E T []) a i=true):AncE m ops E a i:=
 B4A T (fun i a h=>by simp [B4y]at h) i a h
theorem AncE.anc{m:Region.Mode}{ops:Array Oper}{a i:Nat}(h:AncE m ops [] a i):Anc m ops a i:=by
 induction h with
 |one h=>exact .one (h.resolve_right zf)
 |more h _ b=>exact .more (h.resolve_right zf) b
def pos(x:Nat):List Nat→Nat
 | []=>0
 |a::r=>bif Nat.beq a x then 0 else pos x r+1
theorem B2T: ∀{l:List Nat},l.Nodup→l.Pairwise fun x y=>pos x l<pos y l
 | [],_=> .nil
 | a::r,h=>by
  obtain⟨f,e⟩:=List.nodup_cons.1 h
  have n: ∀y∈r,Nat.beq a y=false:=fun y b=>by
   cases hb:Nat.beq a y with
   |false=>rfl
   |true=>exact(f (Nat.eq_of_beq_eq_true hb ▸ b)).elim
  refine .cons (fun y b=> ?_) ?_
  ·simp only [pos,Nat.beq_refl,cond_true,n y b,cond_false]
   omega
  ·refine(B2T e).imp_of_mem fun d b c=> ?_
   simp only [pos,n _ d,n _ b,cond_false]
   omega
def B0j(l:List Nat)(p:Nat×Nat):Nat×Nat:=bif Nat.blt (pos p.1 l) (pos p.2 l)then p else(p.2,p.1)
def A8q:List (Nat×Nat)→List (List (Nat×Nat))
 | []=> [[]]
 |p::r=>(A8q r).map (p:: ·)++(A8q r).map ((p.2,p.1):: ·)
theorem B0k(l:List Nat): ∀(C:List (Nat×Nat)),C.map (B0j l)∈A8q C
 | []=>by simp [A8q]
 |p::r=>by
  simp only [A8q,List.map_cons,List.mem_append,List.mem_map]
  cases hb:Nat.blt (pos p.1 l) (pos p.2 l)with
  |true=>exact .inl ⟨_,B0k l r,by simp [B0j,hb]⟩
  |false=>exact .inr ⟨_,B0k l r,by simp [B0j,hb]⟩
theorem C6R{l:List Nat}{p:Nat×Nat}(a:pos p.1 l≠pos p.2 l):pos (B0j l p).1 l<pos (B0j l p).2 l:=by
 unfold B0j
 cases hb:Nat.blt (pos p.1 l) (pos p.2 l)with
 |true=>exact Nat.le_of_ble_eq_true hb
 | false=>
  have: ¬pos p.1 l<pos p.2 l:=fun h=>by
   have:=Nat.ble_eq_true_of_le (show pos p.1 l+1≤pos p.2 l from h)
   rw [Nat.blt,this]at hb
   cases hb
  simp only [cond_false]
  omega
theorem C9r{l:List Nat}{x y:Nat}(f:x∈l)(c:x≠y)(j:l.Nodup):pos x l≠pos y l:=by
 induction l with
 |nil=>cases f
 | cons a r i=>
  obtain⟨k,g⟩:=List.nodup_cons.1 j
  simp only [pos]
  by_cases e:a=x
  ·subst e
   have:Nat.beq a y=false:=by
    cases hb:Nat.beq a y with
    |false=>rfl
    |true=>exact(c (Nat.eq_of_beq_eq_true hb)).elim
   rw [Nat.beq_refl,this];simp
  ·have d:Nat.beq a x=false:=by
    cases hb:Nat.beq a x with
    |false=>rfl
    |true=>exact(e (Nat.eq_of_beq_eq_true hb)).elim
   rw [d]
   have b:x∈r:=by
    rcases List.mem_cons.1 f with h|h
    ·exact(e h.symm).elim
    ·exact h
   cases hb:Nat.beq a y with
   |true=>simp
   |false=>simpa using i b g
end
end Go.Abs
namespace Go.Abs
instance:Inhabited AI:=⟨⟨none,none,.mkmap 0⟩⟩
def A9U(P:Program)(B N:Nat)(ops:Array Oper):List Oper→Option (List AI)
 | []=>some []
 |o::r=>match C0K P B N ops o,A9U P B N ops r with
  |some i,some is=>some (i::is)
  |_,_=>none
def B2k(m:Region.Mode)(ops:Array Oper)(extra:List (Nat×Nat))(new light:Nat→Bool):Nat→List Nat→List Nat→List Nat
 |0,_,acc=>acc.reverse
 | fuel+1,todo,acc=>
  let ready:=todo.filter fun i=>(match ops[i]? with
   |some o=>o.after.toList.all fun e=> !(Region.binds m e)||acc.any (Nat.beq e.on)
   |none=>false)&&extra.all fun p=> !(Nat.beq p.2 i)||acc.any (Nat.beq p.1)
  match (ready.find? new).orElse fun _=>(ready.find? light).orElse fun _=>ready.head? with
  |some i=>B2k m ops extra new light fuel (todo.filter fun j=> !(Nat.beq j i)) (i::acc)
  |none=>acc.reverse
def B3A(ok:AI→AI→Bool)(f:Nat→AI)(anc:Nat→Nat→Bool):List Nat→List (Nat×Nat)
 | []=> []
 |a::r=>((r.filter fun i=> !(ok (f a) (f i)||anc a i)).map fun i=>(a,i))++B3A ok f anc r
def B5R(anc:Nat→Nat→Bool)(E:List (Nat×Nat)):Bool:=E.any fun p=>E.any fun q=>Nat.beq p.2 q.1&&(anc q.2 p.1||E.any fun r=>Nat.beq q.2 r.1&&(Nat.beq r.2 p.1||anc r.2 p.1))
def B2N(ok:AI→AI→Bool)(f:Nat→AI)(anc:Nat→Nat→Bool):List Nat→Bool
 | []=>true
 |a::r=>(r.all fun i=>ok (f a) (f i)||anc a i)&&B2N ok f anc r
def B9U:List Nat→Bool
 | []=>true
 |a::r=> !(r.any (Nat.beq a))&&B9U r
def B7u(n:Nat)(T:List Nat):Bool:=B9U T&&(Nat.beq T.length n&&T.all fun i=>Nat.blt i n)
def u9(ok:AI→AI→Bool)(new:Nat→Bool)(f:Nat→AI)(m:Region.Mode)(ops:Array Oper):Option (List (List Nat)):=
 let light:=fun i=>Nat.ble (cls (f i).o) 1
 let T0:=B2k m ops [] new light ops.size (List.range ops.size) []
 let anc:=C2V (B2D m ops [] T0 [])
 let C:=B3A ok f anc T0
 let Es:=(A8q C).filter fun E=> !B5R anc E
 let Ts:=Es.map fun E=>B2k m ops E new light ops.size (List.range ops.size) []
 if (B7u ops.size T0&&B5s m ops T0.reverse)&&(Nat.ble C.length 8&&((C.all fun p=>Nat.blt p.1 ops.size&&Nat.blt p.2 ops.size&& !(Nat.beq p.1 p.2))&&
  ((Es.zip Ts).all fun q=>B7u ops.size q.2&&B2N ok f (C2V (B2D m ops q.1 q.2 [])) q.2)))
 then some Ts else none
def A5q(f:Nat→AI)(m:Region.Mode)(ops:Array Oper):Option (List (List Nat)):=
 match u9 B0h (fun _=>false) f m ops with
 |some Ts=>bif Nat.ble Ts.length 16 then some Ts else(u9 ok2 (fun i=>C1j (f i)) f m ops).orElse fun _=>some Ts
 |none=>u9 ok2 (fun i=>C1j (f i)) f m ops
def C8t:List Nat→List Nat→Bool
 | [],[]=>true
 |a::r,b::s=>Nat.beq a b&&C8t r s
 |_,_=>false
def B1s(P:Program)(B N:Nat)(ops:Array Oper)(draw:Bool):Option (List (List AI)):=
 match A9U P B N ops ops.toList with
 |none=>none
 | some is=>
  if draw then
   let f:=fun i=>is.getD i default
   if P.follows .mixedOrders|| !Region.departs ops then(A5q f .any ops).map fun Ts=>Ts.map fun T=>T.map f
   else match A5q f .text ops,A5q f .gc ops with
    |some Ts,some Us=>some ((Ts++Us.filter fun U=> !(Ts.any (C8t U))).map fun T=>T.map f)
    |_,_=>none
  else some [is]
def B9p(P:Program)(N:Nat)(ops:Array Oper)(draw:Bool):Option Nat:=
 match draw,ops.toList with
 |false,[o0,o1]=>match o0.op,o1.op,o0.dst with
  | .makeFunc (.func f) first _,.defer q,some d=>bif first.isEmpty&&(B4p o0 d&&((match q.callee with| .value (.tmp i)=>Nat.beq i d|_=>false)&&(o1.dst.isNone&&(o1.guard.isNone&&(q.args.isEmpty&&(Nat.blt d N&&(K8 P f&&B9W P f)))))))then some d else none
  |_,_,_=>none
 |_,_=>none
abbrev B0O:Nat:=999999999
def Y6(P:Program)(B N:Nat):Code→Option AC
 | .skip=>some .skip
 | .label _=>some .skip
 | .region _ ops draw=>match B9p P N ops draw with
  |some d=>some (.dfr d)
  |none=>match B1s P B N ops draw with
   |some l=>some (.ops l)
   |none=>some .bad
 | .seq a b=>match Y6 P B N a,Y6 P B N b with
  |some a,some b=>some (.seq a b)
  |_,_=>none
 | .cond c a b=>match D0 c,Y6 P B N a,Y6 P B N b with
  |some c,some a,some b=>some (.cond c a b)
  |_,_,_=>none
 | .block id a=>(Y6 P B N a).map (.block id)
 | .loop a=>(Y6 P B N a).map .loop
 | .scope a=>(Y6 P B N a).map (.block B0O)
 | .exit id=>some (.exit id)
 | .ret=>some .ret
 | .rangeFunc g ps a b=>match D0 g,Y6 P B N a,Y6 P B N b with
  |some g,some a,some b=>if ps.toList.all (Nat.blt · N)then some (.rng (B+9000+ps.toList.headD 0) g ps.toList a b)else some .bad
  |_,_,_=>none
 |_=>some .bad
inductive RV where
 |t (i:Nat)
 |c (i n:Nat) (agg:Bool)
def A6W(P:Program):List ResultVar→Option (List RV)
 | []=>some []
 | .tmp i::r=>(A6W P r).map (.t i:: ·)
 | .cell i t::r=>match B2a P t,A6W P r with
  |some (n,a),some rs=>some (.c i n a::rs)
  |_,_=>none
structure Cx where
 P:Program
 fn:Func
 N:Nat
 Q:Res
 bs:Nat
 rd:Option (Nat×Nat)
def A9y(s:St):List RV→Option (List V)
 | []=>some []
 | .t i::r=>(A9y s r).map (D9 s.sl i:: ·)
 | .c i n agg::r=>match A4w s.h (D9 s.sl i) n agg,A9y s r with
  |some v,some vs=>some (v::vs)
  |_,_=>none
def B2K:List V→V
 | [v]=>v
 |vs=> .tup vs
def D1m(c:Cx)(rs:List RV)(s:St):Prop:=
 match A9y s rs with
 |some vs=>c.Q (B2K vs) s.h s.n
 |none=>False
inductive RelL (P:Program) (N:Nat):List AItem→List Item→Prop
 |nil:RelL P N [] []
 |code {B:Nat} {ac:AC} {c:Code} {k:List AItem} {k':List Item} (h:Y6 P B N c=some ac) (hk:RelL P N k k'):RelL P N (.code ac::k) (.code c::k')
 |blk {id:Nat} {k:List AItem} {k':List Item} (hk:RelL P N k k'):RelL P N (.blk id::k) (.inBlock id::k')
 |scp {c:Code} {k:List AItem} {k':List Item} (hk:RelL P N k k'):RelL P N (.blk B0O::k) (.inScope c::k')
 |lp {B:Nat} {ac:AC} {c:Code} {k:List AItem} {k':List Item} (h:Y6 P B N c=some ac) (hk:RelL P N k k'):RelL P N (.lp ac::k) (.inLoop c::k')
 |beg {k:List AItem} {k':List Item} (hk:RelL P N k k'):RelL P N (.beg::k) (.beginRound::k')
def C5J(rd:Option (Nat×Nat))(n:Nat)(ρ:Nat→Loc)(b:Frame):Prop:=
 match rd with
 |none=>b.roundOf=none
 |some q=>q.2<n∧b.roundOf=some (ρ q.2).blk∧b.kind= .normal
theorem C5J.mono{r:Option (Nat×Nat)}{n n':Nat}{ρ ρ':Nat→Loc}{b:Frame}(c:n≤n')(a: ∀s,s<n→ρ' s=ρ s)(h:C5J r n ρ b):C5J r n' ρ' b:=by
 cases r with
 |none=>exact h
 |some q=>exact⟨Nat.lt_of_lt_of_le h.1 c,by rw [a _ h.1];exact h.2.1,h.2.2⟩
def B9f(c:Cx)(O:Nat→Prop)(E:Env)(m:Machine)(b:Frame)(cs:List Frame):Prop:=
 match c.rd with
 | none=> ∃todo a' w' ρ',∃(s':St) (rs:List RV),Steps c.P m (lone {b.atR a' todo with mode:= .returning} cs w')∧HeapR w' O ρ' s'.n s'.h∧Sim c.P c.bs c.N (A8 w' O ρ' s'.n s'.h) s'.sl a'∧
   Ext E (A8 w' O ρ' s'.n s'.h)∧A6W c.P c.fn.results.toList=some rs∧D1m c rs s'
 |some _=> ∀c0 cs',cs=c0::cs'→ ∃w' ρ' h' n' v r,Steps c.P m (lone (c0.finish v) cs' w')∧HeapR w' O ρ' n' h'∧R (A8 w' O ρ' n' h') r v∧Ext E (A8 w' O ρ' n' h')∧c.Q r h' n'
def OK(c:Cx)(k:List AItem)(s:St):Prop:=
 ∀O ρ a w k' b cs,HeapR w O ρ s.n s.h→Sim c.P c.bs c.N (A8 w O ρ s.n s.h) s.sl a→C5J c.rd s.n ρ b→RelL c.P c.N k k'→B9f c O (A8 w O ρ s.n s.h) (lone (b.atR a k') cs w) b cs
section
variable {c:Cx} {k:List AItem} {s:St}
theorem B9f.step{O:Nat→Prop}{E E':Env}{m n:Machine}{b:Frame}{cs:List Frame}(l:Steps c.P m n)(k:Ext E E')(h:B9f c O E' n b cs):B9f c O E m b cs:=by
 unfold B9f at h⊢
 split at h
 ·obtain⟨t,x,w,ρ',s',o,g,d,i,f,j,s⟩:=h
  exact⟨t,x,w,ρ',s',o,l.trans g,d,i,k.trans f,j,s⟩
 ·intro u a e
  obtain⟨w,ρ',p,q,v,r,g,d,i,f,j⟩:=h u a e
  exact⟨w,ρ',p,q,v,r,l.trans g,d,i,k.trans f,j⟩
theorem OK.resp:A6q (OK c k):=by
 rintro s s' ⟨l,j,g⟩ h O ρ a w k' b m e d f hk
 rw [←j,←g]at e d⊢
 rw [←g]at f
 exact h O ρ a w k' b m e ⟨d.size,d.base,d.defers,fun i=>by rw [l];exact d.slot i⟩ f hk
theorem OK.skip(h:OK c k s):OK c (.code .skip::k) s:=by
 intro O ρ a w k' b j e f i hk
 cases hk with
 |code d hk=>
  rename_i l _
  cases l<;>simp only [Y6]at d<;>try (cases d;done)
  case skip=>exact(h O ρ a w _ b j e f i hk).step (.one stepR_skip) (Ext.refl _)
  case label=>exact(h O ρ a w _ b j e f i hk).step (.one stepR_label) (Ext.refl _)
  case region id ops draw=>split at d<;>first|(cases d;done)|(split at d<;>cases d)
  case seq x y=>split at d<;>cases d
  case cond x y z=>split at d<;>cases d
  case block id x=>rw [Option.map_eq_some_iff]at d;obtain⟨_,_,d⟩:=d;cases d
  case scope x=>rw [Option.map_eq_some_iff]at d;obtain⟨_,_,d⟩:=d;cases d
  case loop x=>rw [Option.map_eq_some_iff]at d;obtain⟨_,_,d⟩:=d;cases d
  case rangeFunc g ps x y=>split at d<;>first|(cases d;done)|(split at d<;>cases d)
theorem OK.seq{x y:AC}(h:OK c (.code x:: .code y::k) s):OK c (.code (.seq x y)::k) s:=by
 intro O ρ a w k' b m e i l hk
 cases hk with
 | code d hk=>
  rename_i n _
  cases n<;>simp only [Y6]at d<;>try (cases d;done)
  case seq x y=>
   split at d
   ·rename_i p o f j
    injection d with d
    injection d with e1 e2
    subst e1;subst e2
    exact(h O ρ a w _ b m e i l (.code f (.code j hk))).step (.one stepR_seq) (Ext.refl _)
   ·cases d
  case region id ops draw=>split at d<;>first|(cases d;done)|(split at d<;>cases d)
  case cond x y z=>split at d<;>cases d
  case block id x=>rw [Option.map_eq_some_iff]at d;obtain⟨_,_,d⟩:=d;cases d
  case scope x=>rw [Option.map_eq_some_iff]at d;obtain⟨_,_,d⟩:=d;cases d
  case loop x=>rw [Option.map_eq_some_iff]at d;obtain⟨_,_,d⟩:=d;cases d
  case rangeFunc g ps x y=>split at d<;>first|(cases d;done)|(split at d<;>cases d)
theorem OK.cond{x:Opd}{y z:AC}{t:Bool}(n:s.ev x= .bool t)(p:t=true→OK c (.code y::k) s)(h2:t=false→OK c (.code z::k) s):OK c (.code (.cond x y z)::k) s:=by
 intro O ρ a w k' b cs f i j hk
 cases hk with
 | code h hk=>
  rename_i q _
  cases q<;>simp only [Y6]at h<;>try (cases h;done)
  case cond x y z=>
   split at h
   ·rename_i v u r m o l
    injection h with h
    injection h with e1 e2 e3
    subst e1;subst e2;subst e3
    have d:=(i.evr f.gl).ev m
    rw [n]at d
    have d:=d.bool_inv
    have e:=stepR_cond (P:=c.P) (b:=b) (k:= ‹List Item›) (cs:=cs) (w:=w) (x:=y) (y:=z) d
    cases t with
    |true=>exact(p rfl O ρ a w _ b cs f i j (.code o hk)).step (.one e) (Ext.refl _)
    |false=>exact(h2 rfl O ρ a w _ b cs f i j (.code l hk)).step (.one e) (Ext.refl _)
   ·cases h
  case region id ops draw=>split at h<;>first|(cases h;done)|(split at h<;>cases h)
  case seq x y=>split at h<;>cases h
  case block id x=>rw [Option.map_eq_some_iff]at h;obtain⟨_,_,h⟩:=h;cases h
  case scope x=>rw [Option.map_eq_some_iff]at h;obtain⟨_,_,h⟩:=h;cases h
  case loop x=>rw [Option.map_eq_some_iff]at h;obtain⟨_,_,h⟩:=h;cases h
  case rangeFunc g ps x y=>split at h<;>first|(cases h;done)|(split at h<;>cases h)
theorem C2M{P:Program}{b:Frame}{a:Act}{k:List Item}{cs:List Frame}{w:World}{c:Code}:
  step P (lone (b.atR a (.code (.scope c)::k)) cs w)= .next (lone (b.atR a (.code c:: .inScope c::k)) cs w):=
 step_lone_go (by simp [Go.stepG,Go.stepG.exec,Frame.atR])
theorem B7I{P:Program}{b:Frame}{a:Act}{k:List Item}{cs:List Frame}{w:World}{c:Code}:
  step P (lone (b.atR a (.inScope c::k)) cs w)= .next (lone (b.atR a k) cs w):=
 step_lone_go (by simp [Go.stepG,Go.stepG.exec,Frame.atR])
theorem OK.block{id:Nat}{x:AC}(h:OK c (.code x:: .blk id::k) s):OK c (.code (.block id x)::k) s:=by
 intro O ρ a w k' b l f i j hk
 cases hk with
 | code d hk=>
  rename_i n _
  cases n<;>simp only [Y6]at d<;>try (cases d;done)
  case block id x=>
   rw [Option.map_eq_some_iff]at d
   obtain⟨m,e,d⟩:=d
   injection d with e1 e2
   subst e1;subst e2
   exact(h O ρ a w _ b l f i j (.code e (.blk hk))).step (.one stepR_block) (Ext.refl _)
  case scope x=>
   rw [Option.map_eq_some_iff]at d
   obtain⟨m,e,d⟩:=d
   injection d with e1 e2
   subst e1;subst e2
   exact(h O ρ a w _ b l f i j (.code e (.scp hk))).step (.one C2M) (Ext.refl _)
  case region id ops draw=>split at d<;>first|(cases d;done)|(split at d<;>cases d)
  case seq x y=>split at d<;>cases d
  case cond x y z=>split at d<;>cases d
  case loop x=>rw [Option.map_eq_some_iff]at d;obtain⟨_,_,d⟩:=d;cases d
  case rangeFunc g ps x y=>split at d<;>first|(cases d;done)|(split at d<;>cases d)
theorem OK.blk{id:Nat}(h:OK c k s):OK c (.blk id::k) s:=by
 intro O ρ a w k' b e d g f hk
 cases hk with
 |blk hk=>exact(h O ρ a w _ b e d g f hk).step (.one stepR_inBlock) (Ext.refl _)
 |scp hk=>exact(h O ρ a w _ b e d g f hk).step (.one B7I) (Ext.refl _)
def A0O(id:Nat):List AItem→Option (List AItem)
 | []=>none
 | .blk id'::k=>bif Nat.beq id' id then some k else A0O id k
 | .code _::k=>A0O id k
 | .lp _::k=>A0O id k
 | .beg::k=>A0O id k
theorem C3l{id:Nat}{P:Program}{N:Nat}{k:List AItem}{k':List Item}(d:Nat.beq B0O id=false)(h:RelL P N k k'): ∀{b:List AItem},A0O id k=some b→ ∃a,exitTo id k'=some a∧RelL P N b a:=by
 induction h with
 |nil=>intro b h;cases h
 |code _ _ i=>intro b h;exact i h
 |lp _ _ i=>intro b h;exact i h
 |beg _ i=>intro b h;exact i h
 |scp _ i=>
  intro b h
  simp only [A0O,d,cond_false]at h
  exact i h
 | blk hk i=>
  rename_i c k k'
  intro b h
  simp only [A0O]at h
  cases hb:Nat.beq c id with
  |true=>
   rw [hb]at h
   injection h with h
   subst h
   have:=Nat.eq_of_beq_eq_true hb
   exact⟨k',by simp [exitTo,this],hk⟩
  | false=>
   rw [hb]at h
   obtain⟨a,g,f⟩:=i h
   refine⟨a,?_,f⟩
   have e:(c==id)=false:=by
    cases hq:c==id with
    |false=>rfl
    |true=>have:=eq_of_beq hq;subst this;rw [Nat.beq_refl]at hb;cases hb
   simp only [exitTo,e]
   exact g
theorem OK.exit{id:Nat}{i:List AItem}(e:Nat.beq B0O id=false)(f:A0O id k=some i)(h:OK c i s):OK c (.code (.exit id)::k) s:=by
 intro O ρ a w k' b q j n p hk
 cases hk with
 | code d hk=>
  rename_i r _
  cases r<;>simp only [Y6]at d<;>try (cases d;done)
  case exit id=>
   injection d with d
   injection d with e1
   subst e1
   obtain⟨l,o,m⟩:=C3l e hk f
   exact(h O ρ a w _ b q j n p m).step (.one (stepR_exit o)) (Ext.refl _)
  case region id ops draw=>split at d<;>first|(cases d;done)|(split at d<;>cases d)
  case seq x y=>split at d<;>cases d
  case cond x y z=>split at d<;>cases d
  case block id x=>rw [Option.map_eq_some_iff]at d;obtain⟨_,_,d⟩:=d;cases d
  case scope x=>rw [Option.map_eq_some_iff]at d;obtain⟨_,_,d⟩:=d;cases d
  case loop x=>rw [Option.map_eq_some_iff]at d;obtain⟨_,_,d⟩:=d;cases d
  case rangeFunc g ps x y=>split at d<;>first|(cases d;done)|(split at d<;>cases d)
theorem D3L{P:Program}{O:Nat→Prop}{ρ:Nat→Loc}{w:World}{h:A2}{m:Nat}(K:HeapR w O ρ m h){F:V}{pv:Value}(H:R (A8 w O ρ m h) F pv){t:TypeId}{n:Nat}{q:Bool}{r:V}(G:B2a P t=some (n,q))(g:A4w h F n q=some r):
  ∃E u,pv= .pointer (some E)∧(loadVar t E).run P w= .ok u w∧R (A8 w O ρ m h) r u:=by
 unfold A4w at g
 split at g
 ·rename_i b J i j
  split at g
  ·rename_i C Q L
   split at g
   ·rename_i e a
    obtain⟨x,I,d,k⟩:=K.blk _ (A2.mem_of_get L)
    obtain⟨M,B⟩:=k i e a
    obtain⟨v,y,l⟩:=B2Z (P:=P) B G g
    obtain⟨_,hp⟩:=H.ptr_inv
    have o:(ρ J).sz=C:=x
    refine⟨_,v,hp,?_,l⟩
    simp only [o]
    exact y
   ·cases g
  ·cases g
 ·rename_i N i j
  split at g
  ·rename_i e a
   cases H with
   |iptr _ _ _ p C f hp z d B=>
    have A:A4S (A8 w O ρ m h) p.block (p.off+i*C) e:=fun s c D=>⟨f i s,(d i e s c a D).1,(d i e s c a D).2.1,B i e s c a D⟩
    obtain⟨v,y,l⟩:=B2Z (P:=P) A G g
    exact⟨_,v,rfl,y,l⟩
  ·cases g
 ·cases g
theorem C0e{P:Program}{bs N:Nat}{O:Nat→Prop}{ρ:Nat→Loc}{a:Act}{w:World}(o:HeapR w O ρ s.n s.h)(j:Sim P bs N (A8 w O ρ s.n s.h) s.sl a): ∀(l:List ResultVar) (rs:List RV) (g:List V),A6W P l=some rs→A9y s rs=some g→
  ∃f:List Value,(l.mapM (m:=Sem) fun| .tmp t=>pure (a.tmps.getD t Go.undef)| .cell q t=>do loadVar t (←asAddr (a.tmps.getD q Go.undef))).run P w= .ok f w∧RL (A8 w O ρ s.n s.h) g f.toArray
 | [],rs,g,h,b=>by
  simp [A6W]at h;subst h
  simp [A9y]at b;subst b
  exact⟨[],rfl,rfl,by simp⟩
 | .tmp t::l,rs,g,h,b=>by
  simp only [A6W,Option.map_eq_some_iff]at h
  obtain⟨r,y,rfl⟩:=h
  simp only [A9y,Option.map_eq_some_iff]at b
  obtain⟨e,x,rfl⟩:=b
  obtain⟨f,A,z,p⟩:=C0e o j l r e y x
  refine⟨a.tmps.getD t Go.undef::f,?_,by simpa using z,fun i c v d b=> ?_⟩
  ·rw [List.mapM_cons]
   simp only [Sem.run_bind,Sem.run_pure,Result.andThen_ok,A]
  ·cases i with
   |zero=>
    injection d with d
    simp only [List.getElem?_toArray,List.getElem?_cons_zero,Option.some.injEq]at b
    subst d;subst b;exact j.slot t
   |succ i=>exact p i c v zO zz
 | .cell q t::l,rs,g,h,b=>by
  simp only [A6W]at h
  split at h
  ·rename_i n J r D y
   injection h with h
   subst h
   simp only [A9y]at b
   split at b
   ·rename_i v e C x
    injection b with b
    subst b
    obtain⟨f,A,z,p⟩:=C0e o j l r e y x
    have k:=D3L o (j.slot q) D C
    obtain⟨I,u,G,B,H⟩:=k
    refine⟨u::f,?_,by simpa using z,fun i c E d b=> ?_⟩
    ·have F:(do loadVar t (←asAddr (a.tmps.getD q Go.undef)):Sem Value).run P w= .ok u w:=by
      rw [G];simp [asAddr,B]
     rw [List.mapM_cons,Sem.run_bind]
     show ((do loadVar t (←asAddr (a.tmps.getD q Go.undef)):Sem Value).run P w).andThen _=_
     rw [F,Result.andThen_ok,Sem.run_bind,A]
     rfl
    ·cases i with
     |zero=>simp at d b;subst d;subst b;exact H
     |succ i=>exact p i c E zO zz
   ·cases b
  ·cases h
theorem C2e{g:Func}{P:Program}{bs N:Nat}{O:Nat→Prop}{ρ:Nat→Loc}{a:Act}{w:World}{rs:List RV}{b:List V}(j:HeapR w O ρ s.n s.h)(l:Sim P bs N (A8 w O ρ s.n s.h) s.sl a)(h:A6W P g.results.toList=some rs)(n:A9y s rs=some b):
  ∃v,(results g a.tmps).run P w= .ok v w∧R (A8 w O ρ s.n s.h) (B2K b) v:=by
 obtain⟨e,p,d⟩:=C0e j l _ rs b h n
 have y:(g.results.mapM (m:=Sem) fun| .tmp t=>pure (a.tmps.getD t Go.undef)| .cell q t=>do loadVar t (←asAddr (a.tmps.getD q Go.undef))).run P w= .ok e.toArray w:=by
  rw [Array.mapM_eq_mapM_toList]
  simp only [Sem.run_map]
  rw [p];rfl
 have f:(results g a.tmps).run P w=(Result.ok e.toArray w).andThen fun b k=>(pure (if h:b.size=1 then b[0]else .tuple b):Sem Value).run P k:=by
  unfold results
  rw [Sem.run_bind]
  exact congrArg (fun r=>Result.andThen r _) y
 rw [f,Result.andThen_ok]
 by_cases c:e.length=1
 ·obtain⟨u,rfl⟩:=List.length_eq_one_iff.1 c
  have o:=d.1
  obtain⟨x,rfl⟩:=List.length_eq_one_iff.1 (by simpa using o:b.length=1)
  exact⟨u,rfl,d.2 0 x u rfl rfl⟩
 ·have i: ¬e.toArray.size=1:=by simpa using c
  refine⟨.tuple e.toArray,by rw [dif_neg i];rfl,?_⟩
  have:B2K b= .tup b:=by
   unfold B2K
   split
   ·rename_i v
    have:=d.1
    simp at this
    exact(c this.symm).elim
   ·rfl
  rw [this]
  exact .tup _ _ d.1 d.2
theorem OK.ret{rs:List RV}(e:c.rd=none)(f:A6W c.P c.fn.results.toList=some rs)(h:D1m c rs s):OK c (.code .ret::k) s:=by
 intro O ρ a w k' b m i j g hk
 unfold B9f
 rw [e]at g⊢
 cases hk with
 |code d hk=>
  rename_i l _
  cases l<;>simp only [Y6]at d<;>try (cases d;done)
  case ret=>exact⟨_,a,w,ρ,s,rs,.one (stepR_ret g),i,j,Ext.refl _,f,h⟩
  all_goals first|(split at d<;>first|(cases d;done)|(split at d<;>cases d))|(rw [Option.map_eq_some_iff]at d;obtain⟨_,_,d⟩:=d;cases d)
theorem OK.nil{rs:List RV}(d:c.rd=none)(e:A6W c.P c.fn.results.toList=some rs)(h:D1m c rs s):OK c [] s:=by
 intro O ρ a w k' b j g i f hk
 unfold B9f
 rw [d]at f⊢
 cases hk with
 |nil=>exact⟨_,a,w,ρ,s,rs,.one (stepR_end f),g,i,Ext.refl _,e,h⟩
theorem B2l{P:Program}{B N:Nat}{ops:Array Oper}: ∀{l:List Oper} {a:List AI},A9U P B N ops l=some a→a.length=l.length∧ ∀(q:Nat) o,l[q]? =some o→ ∃i,a[q]? =some i∧C0K P B N ops o=some i
 | [],a,h=>by simp [A9U]at h;subst h;simp
 | o::r,a,h=>by
  simp only [A9U]at h
  split at h
  ·rename_i i j f c
   injection h with h
   subst h
   obtain⟨g,e⟩:=B2l c
   refine⟨by simp [g],fun q d b=> ?_⟩
   cases q with
   |zero=>simp at b;subst b;exact⟨i,rfl,f⟩
   |succ q=>simpa using e q d zz
  ·cases h
theorem C4F{a:Nat}{l:List Nat}:l.any (Nat.beq a)=true↔a∈l:=by
 rw [List.any_eq_true]
 constructor
 ·rintro⟨x,b,h⟩;rw [Nat.eq_of_beq_eq_true h];exact b
 ·intro h;exact⟨a,h,Nat.beq_refl a⟩
theorem B4E: ∀{l:List Nat},B9U l=true→l.Nodup
 | [],_=> .nil
 |a::r,h=>by
  simp only [B9U,Bool.and_eq_true,Bool.not_eq_true']at h
  refine List.nodup_cons.2 ⟨fun b=> ?_,B4E h.2⟩
  rw [C4F.2 b]at h
  cases h.1
theorem B4R{n:Nat}{T:List Nat}(h:B7u n T=true):T.Nodup∧T.Perm (List.range n):=by
 unfold B7u at h
 simp only [Bool.and_eq_true,List.all_eq_true]at h
 obtain⟨d,c,e⟩:=h
 have a:=B4E d
 exact⟨a,B1G _ _ a (fun x b=>List.mem_range.2 (Nat.le_of_ble_eq_true (e x b))) (by rw [Nat.eq_of_beq_eq_true c];simp)⟩
theorem B8e: ∀{a b:List Nat},C8t a b=true→a=b
 | [],[],_=>rfl
 |x::r,y::s,h=>by
  simp only [C8t,Bool.and_eq_true]at h
  rw [Nat.eq_of_beq_eq_true h.1,B8e h.2]
 | [],_::_,h=>by cases h
 |_::_,[],h=>by cases h
theorem B2O{o:AI→AI→Bool}{f:Nat→AI}{b:Nat→Nat→Bool}: ∀{l:List Nat},B2N o f b l=true→l.Pairwise fun a i=>o (f a) (f i)=true∨b a i=true
 | [],_=> .nil
 |a::r,h=>by
  simp only [B2N,Bool.and_eq_true,List.all_eq_true,Bool.or_eq_true]at h
  exact .cons (fun i c=>h.1 i c) (B2O h.2)
theorem B0e{P:Program}{ok:AI→AI→Bool}{Q:Nat→Bool}(hok: ∀a i,ok a i=true→ok2 a i=true){f:Nat→AI}{m:Region.Mode}{ops:Array Oper}{Ts:List (List Nat)}{K:St→Prop}{s:St}(hK:A6q K)(F:u9 ok Q f m ops=some Ts)(hk: ∀T∈Ts,A6r P (T.map f) s K)(t:Nat):
  (Region.linearise m ops t).Perm (List.range ops.size)∧VF P ((Region.linearise m ops t).map f) s K:=by
 unfold u9 at F
 simp only at F
 split at F
 ·rename_i o
  injection F with F
  subst F
  simp only [Bool.and_eq_true]at o
  obtain⟨⟨c1,Z⟩,_,c4,X⟩:=o
  generalize B2k m ops [] _ _ _ _ _=w at*
  obtain⟨n1,I⟩:=B4R c1
  obtain⟨U,p2⟩:=B6q (m:=m) (ops:=ops) (T:=w.reverse) (A4G Z) (fun i n=>List.mem_reverse.2 (I.mem_iff.2 (List.mem_range.2 n))) (fun i n=>List.mem_range.1 (I.mem_iff.1 (List.mem_reverse.1 n))) t
  refine⟨U,?_⟩
  generalize hL:Region.linearise m ops t=L at*
  generalize hC:B3A _ _ _ _=C at hk c4 X
  have B:L.Nodup:=U.symm.nodup List.nodup_range
  have z:=B2T B
  have b: ∀i,i∈L↔i<ops.size:=fun i=>by rw [U.mem_iff];simp
  have hC': ∀p∈C,p.1<ops.size∧p.2<ops.size∧p.1≠p.2:=fun p hp=>by
   rw [List.all_eq_true]at c4
   have:=c4 p hp
   simp only [Bool.and_eq_true]at this
   refine⟨Nat.le_of_ble_eq_true this.1.1,Nat.le_of_ble_eq_true this.1.2,fun e=> ?_⟩
   have u:=this.2
   rw [e,Nat.beq_refl]at u
   cases u
  generalize hE:C.map (B0j L)=E
  have c: ∀p∈E,pos p.1 L<pos p.2 L∧p.1<ops.size∧p.2<ops.size:=by
   intro p hp
   rw [←hE,List.mem_map]at hp
   obtain⟨q,hq,rfl⟩:=hp
   obtain⟨v,h2,u⟩:=hC' q hq
   refine⟨C6R (C9r ((b _).2 v) u B),?_⟩
   unfold B0j
   cases Nat.blt _ _<;>exact⟨by assumption,by assumption⟩
  have j: ∀x y,x<ops.size→y<ops.size→pos x L<pos y L→ ¬Anc m ops y x:=by
   intro x y G hy hlt
   have k:=z.and p2
   obtain⟨l1,l2,Y⟩:=List.append_of_mem ((b x).2 G)
   have R:=(b y).2 hy
   rw [Y]at R
   rw [Y]at k
   rcases List.mem_append.1 R with h|h
   ·have:=((List.pairwise_append.1 k).2.2 y h x zf).1
    rw [←Y]at this
    omega
   ·rcases List.mem_cons.1 h with rfl|h
    ·omega
    ·exact((List.pairwise_cons.1 (List.pairwise_append.1 k).2.1).1 y h).2
  have M:B5R (C2V (B2D m ops [] w [])) E=false:=by
   cases d:B5R (C2V (B2D m ops [] w [])) E with
   |false=>rfl
   | true=>
    unfold B5R at d
    rw [List.any_eq_true]at d
    obtain⟨p,hp,d⟩:=d
    rw [List.any_eq_true]at d
    obtain⟨q,hq,d⟩:=d
    rw [Bool.and_eq_true]at d
    have e:=Nat.eq_of_beq_eq_true d.1
    obtain⟨a1,a2,a3⟩:=c p hp
    obtain⟨b1,b2,b3⟩:=c q hq
    rw [←e]at b1
    rcases Bool.or_eq_true _ _ ▸ d.2 with h|h
    ·exact(j p.1 q.2 a2 b3 zd (B1n h).anc).elim
    ·rw [List.any_eq_true]at h
     obtain⟨r,hr,h⟩:=h
     rw [Bool.and_eq_true]at h
     have e2:=Nat.eq_of_beq_eq_true h.1
     obtain⟨V,d2,d3⟩:=c r hr
     rw [←e2]at V
     rcases Bool.or_eq_true _ _ ▸ h.2 with g|g
     ·have e3:=Nat.eq_of_beq_eq_true g
      rw [e3]at V
      omega
     ·exact(j p.1 r.2 a2 d3 zd (B1n g).anc).elim
  have H:E∈(A8q C).filter fun E=> !B5R (C2V (B2D m ops [] w [])) E:=by
   rw [List.mem_filter]
   exact⟨by rw [←hE];exact B0k _ C,by rw [M];rfl⟩
  generalize hT:B2k m ops E Q (fun i=>Nat.ble (cls (f i).o) 1) ops.size (List.range ops.size) []=T
  have hc5:B7u ops.size T=true∧B2N ok f (C2V (B2D m ops E T [])) T=true:=by
   rw [List.all_eq_true]at X
   have:=X (E,T) (by
    rw [List.zip_map_right,List.mem_map]
    refine⟨(E,E),?_,by simp only [Prod.map];rw [←hT];rfl⟩
    have hz: ∀(l:List (List (Nat×Nat))) x,x∈l→(x,x)∈l.zip l:=by
     intro l x G
     induction l with
     |nil=>cases G
     |cons y r ih=>
      rw [List.zip_cons_cons]
      rcases List.mem_cons.1 G with rfl|G
      ·simp
      ·exact List.mem_cons_of_mem _ (ih G)
    exact hz _ E H)
   simpa only [Bool.and_eq_true]using this
  obtain⟨V,d4⟩:=hc5
  obtain⟨hnT,hTr⟩:=B4R V
  have hk:=hk T (by
   rw [List.mem_map]
   exact⟨E,H,hT⟩)
  have D:=(B2O d4).imp (S:=fun a i=>ok2 (f a) (f i)=true∨AncE m ops E a i) (fun h=>h.imp (hok _ _) B1n)
  have A: ∀a i,AncE m ops E a i→i<ops.size→a<ops.size∧pos a L<pos i L:=by
   have one: ∀a i,B5E m ops a i∨(a,i)∈E→i<ops.size→a<ops.size∧pos a L<pos i L:=by
    intro a i h n
    rcases h with h|h
    ·have W:a<ops.size:=by
      have d:J4 m ops w.reverse:=A4G Z
      obtain⟨t1,t2,J⟩:=List.append_of_mem (List.mem_reverse.2 (I.mem_iff.2 (List.mem_range.2 n)))
      rw [J]at d
      have u:=(J4.tail d).1 a h
      have h4:a∈w.reverse:=by rw [J];simp [u]
      exact List.mem_range.1 (I.mem_iff.1 (List.mem_reverse.1 h4))
     refine⟨W,?_⟩
     have O:Anc m ops a i:= .one h
     rcases Nat.lt_trichotomy (pos a L) (pos i L)with v|v|v
     ·exact v
     ·exfalso
      have:a=i:=by
       by_cases e:a=i
       ·exact e
       ·exact(C9r ((b a).2 W) e B v).elim
      subst this
      have d:J4 m ops w.reverse:=A4G Z
      obtain⟨t1,t2,J⟩:=List.append_of_mem (List.mem_reverse.2 (I.mem_iff.2 (List.mem_range.2 n)))
      rw [J]at d
      have u:=(J4.tail d).1 a h
      have N:w.reverse.Nodup:=(List.reverse_perm w).symm.nodup n1
      rw [J]at N
      exact(List.nodup_cons.1 (List.nodup_append.1 N).2.1).1 u
     ·exact(j i a n W v O).elim
    ·exact⟨(c _ h).2.1,(c _ h).1⟩
   intro a i h
   induction h with
   |one h=>exact one _ _ h
   |more h _ ih=>
    intro n
    obtain⟨v,h2⟩:=one _ _ h n
    obtain⟨u,h4⟩:=ih v
    exact⟨u,Nat.lt_trans h4 h2⟩
  have hl':L.Pairwise fun i a=> ¬AncE m ops E a i:=z.imp_of_mem fun n W hlt h=>by
   have:=(A _ _ h ((b _).1 n)).2
   omega
  exact C5v f (AncE m ops E) hK L T s hnT (U.trans hTr.symm) D hl' hk
 ·cases F
theorem B1E{P:Program}{f:Nat→AI}{m:Region.Mode}{ops:Array Oper}{c:List (List Nat)}{K:St→Prop}{s:St}(d:A6q K)(b:A5q f m ops=some c)(hk: ∀T∈c,A6r P (T.map f) s K)(t:Nat):
  (Region.linearise m ops t).Perm (List.range ops.size)∧VF P ((Region.linearise m ops t).map f) s K:=by
 unfold A5q at b
 cases h1:u9 B0h (fun _=>false) f m ops with
 | some u=>
  have first:u=c→(Region.linearise m ops t).Perm (List.range ops.size)∧VF P ((Region.linearise m ops t).map f) s K:=fun e=>by
   subst e
   exact B0e (fun a i h=>by unfold ok2;rw [h];rfl) d h1 hk t
  rw [h1]at b
  simp only at b
  cases hb:Nat.ble u.length 16 with
  |true=>rw [hb]at b;injection b with b;exact first b
  | false=>
   rw [hb]at b
   cases h2:u9 ok2 (fun i=>C1j (f i)) f m ops with
   |none=>rw [h2]at b;injection b with b;exact first b
   |some v=>
    rw [h2]at b
    injection b with b
    subst b
    exact B0e (fun a i h=>h) d h2 hk t
 |none=>
  rw [h1]at b
  exact B0e (fun a i h=>h) d b hk t
theorem C0c{P:Program}{B N:Nat}{ops:Array Oper}{g:Bool}{A:List (List AI)}{id:Nat}{K:St→Prop}(J:A6q K)(k:B1s P B N ops g=some A)(hk: ∀is∈A,A6r P is s K)
  {bs:Nat} {O:Nat→Prop} {ρ:Nat→Loc} {a:Act} {w:World} (Z:HeapR w O ρ s.n s.h) (hs:Sim P bs N (A8 w O ρ s.n s.h) s.sl a) (b:Frame) (k':List Item) (cs:List Frame):
  ∃ρ' s' d c,HeapR c O ρ' s'.n s'.h∧Sim P bs N (A8 c O ρ' s'.n s'.h) s'.sl d∧Ext (A8 w O ρ s.n s.h) (A8 c O ρ' s'.n s'.h)∧K s'∧Steps P (lone (b.atR a (.code (.region id ops g)::k')) cs w) (lone (b.atR d k') cs c):=by
 unfold B1s at k
 split at k
 ·cases k
 ·rename_i G S
  obtain⟨E,p⟩:=B2l S
  let Q:Exit→Act→World→Prop:=fun e d c=>e= .normal∧ ∃ρ' s',HeapR c O ρ' s'.n s'.h∧Sim P bs N (A8 c O ρ' s'.n s'.h) s'.sl d∧Ext (A8 w O ρ s.n s.h) (A8 c O ρ' s'.n s'.h)∧K s'
  have n: ∀m,(∃e d c,Q e d c∧ArrivesIn (Machine.fenced P (Fr b.roundOf)) P m b k' cs e d c)→Steps P (lone (b.atR a (.code (.region id ops g)::k')) cs w) m→ ∃ρ' s' d c,HeapR c O ρ' s'.n s'.h∧Sim P bs N (A8 c O ρ' s'.n s'.h) s'.sl d∧Ext (A8 w O ρ s.n s.h) (A8 c O ρ' s'.n s'.h)∧K s'∧Steps P (lone (b.atR a (.code (.region id ops g)::k')) cs w) (lone (b.atR d k') cs c):=by
   rintro m ⟨e,d,c,⟨rfl,ρ',s',q1,q2,q3,q4⟩,x⟩ I
   exact⟨ρ',s',d,c,q1,q2,q3,q4,I.trans (StepsIn.steps x)⟩
  cases g with
  | false=>
   simp only [Bool.false_eq_true,if_false]at k
   injection k with k
   subst k
   have hk:=hk G zf
   have hl:(List.range ops.size).length=G.length:=by rw [E];simp
   have l:=B3P (Q:=Q) (ro:=b.roundOf) (ops:=ops) (P:=P) (N:=N) (List.range ops.size) G a w ρ s K hl.symm (fun q j y=>by
    have F:q<ops.size:=by have:=(List.getElem?_eq_some_iff.1 y).1;simpa using this
    have H:j=q:=by have:=(List.getElem?_eq_some_iff.1 y).2;simpa using this.symm
    subst H
    obtain⟨i,v,o⟩:=p j ops[j] (by simp [F])
    exact⟨ops[j],i,by simp [F],v,o⟩) Z hs hk.vf fun ρ' s' d c v o X W=>⟨rfl,ρ',s',v,o,X,W⟩
   exact n _ (wp_opsIn _ a w l b k' cs rfl trivial (room_wide _)) (.one stepR_region)
  | true=>
   simp only [if_true]at k
   let f:=fun i=>G.getD i default
   generalize ht:w.tape w.drawn (.order b.fn id)=t
   have fin: ∀L:List Nat,Region.schedule (P.follows .mixedOrders) ops t=L→L.Perm (List.range ops.size)→VF P (L.map f) s K→
     ∃ρ' s' d c,HeapR c O ρ' s'.n s'.h∧Sim P bs N (A8 c O ρ' s'.n s'.h) s'.sl d∧Ext (A8 w O ρ s.n s.h) (A8 c O ρ' s'.n s'.h)∧K s'∧Steps P (lone (b.atR a (.code (.region id ops true)::k')) cs w) (lone (b.atR d k') cs c):=by
    intro L hL r V
    obtain⟨R,D⟩:=Z.drew
    have l:=B3P (Q:=Q) (ro:=b.roundOf) (ops:=ops) (P:=P) (N:=N) L (L.map f) a w.drew ρ s K zf (fun q j y=>by
     have H:j<ops.size:=by simpa using r.subset (List.mem_of_getElem? y)
     obtain⟨i,v,o⟩:=p j ops[j] (by simp [H])
     refine⟨ops[j],i,by simp [H],?_,o⟩
     rw [List.getElem?_map,y]
     simp [f,List.getD_eq_getElem?_getD,v]) R (hs.mono D) V fun ρ' s' d c v o X W=>⟨rfl,ρ',s',v,o,D.trans X,W⟩
    refine n _ (wp_opsIn _ a w.drew l b k' cs rfl trivial (room_wide _)) (.one ?_)
    rw [stepR_region_draw,ht,hL]
    rfl
   split at k
   ·rename_i h
    rw [Option.map_eq_some_iff]at k
    obtain⟨Ts,u,rfl⟩:=k
    obtain⟨r,z⟩:=B1E (P:=P) (s:=s) J u (fun T C=>hk _ (List.mem_map.2 ⟨T,C,rfl⟩)) t
    exact fin _ (by unfold Region.schedule;rw [if_pos h]) r z
   ·rename_i h
    split at k
    ·rename_i Ts Us u M
     injection k with k
     subst k
     have Y: ∀T∈Ts,A6r P (T.map f) s K:=fun T C=>hk _ (List.mem_map.2 ⟨T,List.mem_append.2 (.inl C),rfl⟩)
     have kU: ∀U∈Us,A6r P (U.map f) s K:=fun U hU=>by
      cases hb:Ts.any (C8t U)with
      |false=>exact hk _ (List.mem_map.2 ⟨U,List.mem_append.2 (.inr (List.mem_filter.2 ⟨hU,by rw [hb];rfl⟩)),rfl⟩)
      |true=>
       rw [List.any_eq_true]at hb
       obtain⟨T,C,he⟩:=hb
       rw [B8e he]
       exact Y T C
     by_cases o:(t%2==0)=true
     ·obtain⟨r,z⟩:=B1E (P:=P) (s:=s) J u Y (t/2)
      exact fin _ (by unfold Region.schedule;rw [if_neg h,if_pos o]) r z
     ·obtain⟨r,z⟩:=B1E (P:=P) (s:=s) J M kU (t/2)
      exact fin _ (by unfold Region.schedule;rw [if_neg h,if_neg o]) r z
    ·cases k
theorem OK.ops{i:List (List AI)}(h: ∀m∈i,A6r c.P m s (OK c k)):OK c (.code (.ops i)::k) s:=by
 intro O ρ a w k' b e j p v hk
 cases hk with
 | code d hk=>
  rename_i A _
  cases A<;>simp only [Y6]at d<;>try (cases d;done)
  case region id ops draw=>
   split at d
   ·cases d
   split at d
   ·rename_i f u
    injection d with d
    injection d with d
    subst d
    obtain⟨ρ',s',r,o,B,l,q,t,n⟩:=C0c (id:=id) OK.resp u h j p b _ e
    exact(t O ρ' r o _ b e B l (v.mono q.n q.ρ) hk).step n q
   ·cases d
  case seq x y=>split at d<;>cases d
  case cond x y z=>split at d<;>cases d
  case block id x=>rw [Option.map_eq_some_iff]at d;obtain⟨_,_,d⟩:=d;cases d
  case scope x=>rw [Option.map_eq_some_iff]at d;obtain⟨_,_,d⟩:=d;cases d
  case loop x=>rw [Option.map_eq_some_iff]at d;obtain⟨_,_,d⟩:=d;cases d
  case rangeFunc g ps x y=>split at d<;>first|(cases d;done)|(split at d<;>cases d)
theorem C9n{P:Program}{ops:Array Oper}{Q:Exit→Act→World→Prop}{i:Nat}{rest:List Nat}{a:Act}{w:World}{o:Oper}{v:Value}(c:ops[i]? =some o)(d:o.guard=none)(b:(execOp a.eval o).run P w= .ok (.value v) w)
  (h:wpOpsIn (Fr none) 0 P ops Q rest (a.put o.dst v) w):wpOpsIn (Fr none) 0 P ops Q (i::rest) a w:=by
 simp only [wpOpsIn,c,A4N d,if_true]
 exact YF
theorem C3R{P:Program}{ops:Array Oper}{Q:Exit→Act→World→Prop}{i:Nat}{rest:List Nat}{a:Act}{w:World}{o:Oper}{d:Deferred}(c:ops[i]? =some o)(e:o.guard=none)(b:(execOp a.eval o).run P w= .ok (.defer d) w)
  (h:wpOpsIn (Fr none) 0 P ops Q rest ({a with defers:=d::a.defers}.put o.dst Go.undef) w):wpOpsIn (Fr none) 0 P ops Q (i::rest) a w:=by
 simp only [wpOpsIn,c,A4N e,if_true]
 exact YF
theorem C6d{P:Program}{bs N:Nat}{E:Env}{s:St}{ops:Array Oper}{l:Bool}{d id:Nat}{a:Act}{w:World}(g:B9p P N ops l=some d)(J:Sim P bs N E s.sl a)(b:Frame)(Q:b.roundOf=none)(k':List Item)(cs:List Frame):
  ∃r,Sim P bs N E (I2 s.sl d .undef) r∧Steps P (lone (b.atR a (.code (.region id ops l)::k')) cs w) (lone (b.atR r k') cs w):=by
 unfold B9p at g
 split at g
 ·rename_i t m M
  have W:ops= #[t,m]:=Array.ext' M
  subst W
  split at g
  ·rename_i f first c q k L O p2
   cases hb2:first.isEmpty&&(B4p t k&&((match q.callee with| .value (.tmp i)=>Nat.beq i k|_=>false)&&(m.dst.isNone&&(m.guard.isNone&&(q.args.isEmpty&&(Nat.blt k N&&(K8 P f&&B9W P f)))))))with
   |false=>rw [hb2]at g;cases g
   | true=>
    rw [hb2]at g
    injection g with g
    subst g
    simp only [Bool.and_eq_true]at hb2
    obtain⟨h1,h2,y,h4,U,h6,u,T,V⟩:=hb2
    obtain⟨X,K⟩:=A6X h2
    have u:=Nat.le_of_ble_eq_true u
    have C:first= #[]:=by simpa using h1
    subst C
    have D:m.dst=none:=by simpa using h4
    have B:m.guard=none:=by simpa using U
    obtain⟨qc,qa,qt⟩:=q
    have z:qa= #[]:=by simpa using h6
    subst z
    have F:qc= .value (.tmp k):=by
     simp only at y
     split at y
     ·rw [Nat.eq_of_beq_eq_true y]
     ·cases y
    subst F
    have R:(execOp a.eval t).run P w= .ok (.value (.func (.func f) #[] (c.map a.eval))) w:=by simp [execOp,L,Instr.makeFunc]
    have Y: ∀η:Operand→Value,η (.tmp k)= .func (.func f) #[] (c.map a.eval)→(execOp η m).run P w= .ok (.defer {target:= .fn (.func f) (c.map a.eval),args:= #[]}) w:=fun η h=>by simp [execOp,O,resolve,Deferred.ofValue,h]
    have S:B9i P {target:= .fn (.func f) (c.map a.eval),args:= #[]}:=⟨.func f,c.map a.eval,f, #[]++c.map a.eval,rfl,fun w=>by simp [invoke,A4K T],fun w=>C9v V _ w⟩
    generalize Z:(Value.func (.func f) #[] (c.map a.eval))=A at*
    generalize ({target:= .fn (.func f) (c.map a.eval),args:= #[]}:Deferred)=I at*
    have j:=J.set (d:=k) (v:= .undef) (x:=A) u (.undef _)
    have G:Sim P bs N E (I2 s.sl k .undef) {a.put (some k) A with defers:=I::a.defers}:=⟨j.size,j.base,j.defers.push S,j.slot⟩
    refine⟨_,G,?_⟩
    have p:wpOpsIn (Fr none) 0 P #[t,m] (fun e r H=>e= .normal∧r={a.put (some k) A with defers:=I::a.defers}∧H=w) [0,1] a w:=by
     refine C9n (o:=t) rfl K R ?_
     rw [X]
     refine C3R (o:=m) rfl B (Y _ (A9Y (by rw [J.size];exact u))) ?_
     rw [D]
     exact⟨rfl,rfl,rfl⟩
    obtain⟨e,r,H,⟨rfl,rfl,rfl⟩,n⟩:=wp_opsIn _ a w p b k' cs Q trivial (room_wide _)
    exact(Steps.one stepR_region).trans (StepsIn.steps n)
  ·cases g
 ·cases g
theorem OK.dfr{d:Nat}(i:c.rd=none)(h:OK c k ⟨I2 s.sl d .undef,s.h,s.n⟩):OK c (.code (.dfr d)::k) s:=by
 intro O ρ a w k' b m n o f hk
 cases hk with
 | code e hk=>
  rename_i t _
  cases t<;>simp only [Y6]at e<;>try (cases e;done)
  case region id ops draw=>
   split at e
   ·rename_i u q
    injection e with e
    injection e with e
    subst e
    have p:b.roundOf=none:=by
     unfold C5J at f
     rw [i]at f
     exact f
    obtain⟨r,j,l⟩:=C6d (id:=id) (w:=w) q o b p _ m
    exact(h O ρ r w _ b m n j f hk).step l (Ext.refl _)
   ·split at e<;>cases e
  case seq x y=>split at e<;>cases e
  case cond x y z=>split at e<;>cases e
  case block id x=>rw [Option.map_eq_some_iff]at e;obtain⟨_,_,e⟩:=e;cases e
  case scope x=>rw [Option.map_eq_some_iff]at e;obtain⟨_,_,e⟩:=e;cases e
  case loop x=>rw [Option.map_eq_some_iff]at e;obtain⟨_,_,e⟩:=e;cases e
  case rangeFunc g ps x y=>split at e<;>first|(cases e;done)|(split at e<;>cases e)
theorem OK.lp{x:AC}(h:OK c (.code x:: .lp x::k) s):OK c (.lp x::k) s:=by
 intro O ρ a w k' b i e f g hk
 cases hk with
 |lp d hk=>exact(h O ρ a w _ b i e f g (.code d (.lp d hk))).step (.one stepR_inLoop) (Ext.refl _)
theorem OK.loop{x:AC}(h:OK c (.code x:: .lp x::k) s):OK c (.code (.loop x)::k) s:=by
 intro O ρ a w k' b l f i j hk
 cases hk with
 | code d hk=>
  rename_i m _
  cases m<;>simp only [Y6]at d<;>try (cases d;done)
  case loop x=>
   rw [Option.map_eq_some_iff]at d
   obtain⟨n,e,d⟩:=d
   injection d with e1
   subst e1
   exact(h O ρ a w _ b l f i j (.code e (.lp e hk))).step (.one stepR_loop) (Ext.refl _)
  case region id ops draw=>split at d<;>first|(cases d;done)|(split at d<;>cases d)
  case seq x y=>split at d<;>cases d
  case cond x y z=>split at d<;>cases d
  case block id x=>rw [Option.map_eq_some_iff]at d;obtain⟨_,_,d⟩:=d;cases d
  case scope x=>rw [Option.map_eq_some_iff]at d;obtain⟨_,_,d⟩:=d;cases d
  case rangeFunc g ps x y=>split at d<;>first|(cases d;done)|(split at d<;>cases d)
def C1(s s':St):Prop:=(∀p∈s'.sl,p.2=D9 s.sl p.1)∧(∀e∈s'.h,e∈s.h)∧s.n≤s'.n
theorem B5z{sl:List (Nat×V)}(i:Nat):D9 sl i= .undef∨(i,D9 sl i)∈sl:=by
 induction sl with
 |nil=>exact .inl rfl
 |cons p r a=>
  simp only [D9]
  cases hb:Nat.beq p.1 i with
  |true=>have:=Nat.eq_of_beq_eq_true hb;subst this;exact .inr zf
  |false=>exact a.imp id fun h=>by simp [h]
theorem HeapR.up{w:World}{O:Nat→Prop}{ρ:Nat→Loc}{n n':Nat}{h:A2}(a:HeapR w O ρ n h)(d:n≤n'):HeapR w O ρ n' h∧Ext (A8 w O ρ n h) (A8 w O ρ n' h):=by
 have c:Ext (A8 w O ρ n h) (A8 w O ρ n' h):=⟨rfl,d,fun _ _=>rfl,Wd.refl _,fun _ _ h=>⟨rfl,h⟩⟩
 exact⟨⟨fun e b=>Nat.lt_of_lt_of_le (a.lt e b) d,a.inj,a.out,a.notO,fun e b=>(a.blk e b).mono c (a.lt e b) fun _=>rfl,a.gl.mono c.imm⟩,c⟩
theorem OK.weak{s':St}(q:C1 s s')(h:OK c k s'):OK c k s:=by
 intro O ρ a w k' b u m e t hk
 obtain⟨r,o,v⟩:=q
 obtain⟨g,f⟩:=m.drop o
 obtain⟨l,j⟩:=g.up v
 have d:=f.trans j
 refine(h O ρ a w k' b u l ⟨e.size,e.base,e.defers.mono d,fun i=> ?_⟩ (t.mono d.n d.ρ) hk).step (Steps.refl _ _) d
 rcases B5z (sl:=s'.sl) i with n|p
 ·rw [n];exact .undef _
 ·have:=r _ p
  simp only at this
  rw [this]
  exact(e.slot i).mono d
theorem OK.rounds{α:Type}{x:AC}(S:α→St)(J:α→Prop)(μ:α→Nat)(a:α)(b:C1 s (S a))(g:J a)
  (r: ∀y,J y→(∀s z,J z→μ z<μ y→C1 s (S z)→OK c (.lp x::k) s)→OK c (.code x:: .lp x::k) (S y)):OK c (.code (.loop x)::k) s:=by
 have d: ∀m y,μ y=m→J y→OK c (.code x:: .lp x::k) (S y):=by
  intro m
  induction m using Nat.strongRecOn with
  |_ m i=>
   intro y f j
   exact r y j fun s z e h b=>OK.weak b (OK.lp (i (μ z) (f ▸ h) z rfl e))
 exact OK.loop (OK.weak b (d _ a rfl g))
theorem HeapR.loopSet{w:World}{O:Nat→Prop}{ρ:Nat→Loc}{n:Nat}{h:A2}{b st N:Nat}{sl:List (Nat×V)}{d:List Nat}{p:Code→Code→Prop}{s:LoopState}{c:Option Code}
  (g:HeapR w O ρ n h) (v:A2.get h b st=some (.loop N sl d p s c)): ∃r:Loop,w.heap[(ρ st).blk]? =some (.loop r)∧r.state=s∧r.pending=c∧r.params.toList=d∧r.tmps.size=N∧(∀i∈d,i<N)∧
   (∀i,R (A8 w O ρ n h) (D9 sl i) (r.tmps.getD i Go.undef))∧p r.assign r.body∧
   ∀s' a,HeapR (w.putObj (ρ st).blk (.loop {r with state:=s',pending:=a})) O ρ n (A2.put h b st (.loop N sl d p s' a))∧
    Ext (A8 w O ρ n h) (A8 (w.putObj (ρ st).blk (.loop {r with state:=s',pending:=a})) O ρ n (A2.put h b st (.loop N sl d p s' a))):=by
 have k:=A2.mem_of_get v
 obtain⟨f,o,r,j,A,z,t,q,l,m⟩:=g.blk _ k
 simp only at f j l
 refine⟨r,j,A,z,t,q,o,l,m,fun s' a=> ?_⟩
 refine HeapR.step (w':=w.putObj (ρ st).blk (.loop {r with state:=s',pending:=a})) (ρ':=ρ) (n':=n) (b:=b) (st:=st) (x:= .loop N sl d p s' a) g (Nat.le_refl _) (fun _ _=>rfl) (g.lt _ k) (Wd.setObj w _ _)
  (fun y C B=> ?_) (.inr (.inr ⟨_,k,rfl,f,rfl⟩)) fun u=>⟨f,o,{r with state:=s',pending:=a},?_,rfl,rfl,t,q,fun i=>(l i).mono u,m⟩
 ·by_cases e:y=(ρ st).blk
  ·exact(f (B e)).elim
  ·exact World.putObj_heap_other e
 ·exact World.putObj_heap_same (Array.getElem?_eq_some_iff.1 j).1
def C7d(q:Nat×Nat)(jump:Option Code)(Q:Res)(s:St):Prop:=
 match A2.get s.h q.1 q.2 with
 |some (.loop N sl ps p _ _)=>Q (.bool jump.isNone) (A2.put s.h q.1 q.2 (.loop N sl ps p (if jump.isNone then .ready else .done) jump)) s.n
 |_=>False
theorem B6Q{q:Nat×Nat}(i:c.rd=some q){j:Option Code}(h:C7d q j c.Q s){O:Nat→Prop}{ρ:Nat→Loc}{w:World}{b:Frame}{m:Machine}{cs:List Frame}(u:HeapR w O ρ s.n s.h)(n:C5J c.rd s.n ρ b)
  (d: ∀g a l v o,cs=g::a→b.roundOf=some l→b.kind= .normal→(Instr.endRound l j).run c.P w= .ok v o→step c.P m= .next (lone (g.finish v) a o)):B9f c O (A8 w O ρ s.n s.h) m b cs:=by
 unfold B9f
 rw [i]at n⊢
 obtain⟨H,B,z⟩:=n
 intro g a e
 unfold C7d at h
 split at h
 ·rename_i N J G p L t C
  obtain⟨r,x,K,D,F,E,_,I,M,y⟩:=u.loopSet C
  obtain⟨A,k⟩:=y (if j.isNone then .ready else .done) j
  have f:=run_endRound (P:=c.P) j x
  exact⟨_,ρ,_,s.n,_,_,.one (d g a _ _ _ e B z f),A,.bool _,k,h⟩
 ·exact h.elim
theorem OK.nilR{q:Nat×Nat}(d:c.rd=some q)(h:C7d q none c.Q s):OK c [] s:=by
 intro O ρ a w k' b r f o j hk
 cases hk with
 |nil=>
  refine B6Q d h f j fun p k l v n e i g m=> ?_
  subst e
  exact stepR_round_end i g m
theorem OK.retR{q:Nat×Nat}(f:c.rd=some q)(h:C7d q (some .ret) c.Q s):OK c (.code .ret::k) s:=by
 intro O ρ a w k' b u g t m hk
 cases hk with
 | code d hk=>
  rename_i p _
  cases p<;>simp only [Y6]at d<;>try (cases d;done)
  case ret=>
   refine B6Q f h g m fun x o l v r e j i n=> ?_
   subst e
   exact stepR_round_ret j i n
  all_goals first|(split at d<;>first|(cases d;done)|(split at d<;>cases d))|(rw [Option.map_eq_some_iff]at d;obtain⟨_,_,d⟩:=d;cases d)
theorem C0W{id:Nat}{P:Program}{N:Nat}{k:List AItem}{k':List Item}(b:Nat.beq B0O id=false)(h:RelL P N k k'):A0O id k=none→exitTo id k'=none:=by
 induction h with
 |nil=>intro _;rfl
 |code _ _ i=>intro h;exact i h
 |lp _ _ i=>intro h;exact i h
 |beg _ i=>intro h;exact i h
 |scp _ i=>
  intro h
  simp only [A0O,b,cond_false]at h
  exact i h
 | blk hk i=>
  rename_i a k k'
  intro h
  simp only [A0O]at h
  cases hb:Nat.beq a id with
  |true=>rw [hb]at h;cases h
  | false=>
   rw [hb]at h
   have c:(a==id)=false:=by
    cases hq:a==id with
    |false=>rfl
    |true=>have:=eq_of_beq hq;subst this;rw [Nat.beq_refl]at hb;cases hb
   simp only [exitTo,c]
   exact i h
theorem OK.exitR{q:Nat×Nat}(f:c.rd=some q){id:Nat}(g:Nat.beq B0O id=false)(i:A0O id k=none)(h:C7d q (some (.exit id)) c.Q s):OK c (.code (.exit id)::k) s:=by
 intro O ρ a w k' b z j y p hk
 cases hk with
 | code d hk=>
  rename_i u _
  cases u<;>simp only [Y6]at d<;>try (cases d;done)
  case exit id'=>
   injection d with d
   injection d with d
   subst d
   have m:=C0W g hk i
   refine B6Q f h j p fun A t l v x e o n r=> ?_
   subst e
   exact stepR_round_exit o n m r
  all_goals first|(split at d<;>first|(cases d;done)|(split at d<;>cases d))|(rw [Option.map_eq_some_iff]at d;obtain⟨_,_,d⟩:=d;cases d)
def C5O(q:Nat×Nat)(s:St)(K:St→Prop):Prop:=
 match A2.get s.h q.1 q.2 with
 |some (.loop N sl ps p .ready pend)=>K ⟨s.sl,A2.put s.h q.1 q.2 (.loop N sl ps p .busy pend),s.n⟩
 |_=>False
theorem OK.beg{q:Nat×Nat}(f:c.rd=some q)(h:C5O q s (OK c k)):OK c (.beg::k) s:=by
 intro O ρ a w k' b u n v j hk
 cases hk with
 | beg hk=>
  unfold C5O at h
  split at h
  ·rename_i N D B p e y
   obtain⟨r,o,x,m,A,z,_,C,E,t⟩:=n.loopSet y
   obtain⟨l,g⟩:=t .busy e
   have d:=j
   rw [f]at d
   have i:=run_beginRound (P:=c.P) o x
   rw [←m]at l g h
   exact(h O ρ a _ _ b u l (v.mono g) (j.mono (Nat.le_refl _) fun _ _=>rfl) hk).step (.one (stepR_beginRound d.2.1 i)) g
  ·exact h.elim
def A2u(P:Program)(N:Nat)(x y:AC)(a b:Code):Prop:=(∃B,Y6 P B N a=some x)∧ ∃B,Y6 P B N b=some y
def A8r(sl:List (Nat×V)):List Nat→List V→List (Nat×V)
 |p::ps,a::as=>A8r (I2 sl p a) ps as
 |_,_=>sl
theorem C1S{E:Env}{N:Nat}: ∀(b:List Nat) (e:List V) (d:List Value) (sl:List (Nat×V)) (t:Array Value),e.length=d.length→(∀i∈b,i<N)→t.size=N→(∀(i:Nat) c v,e[i]? =some c→d[i]? =some v→R E c v)→
  (∀i,R E (D9 sl i) (t.getD i Go.undef))→((b.zip d).foldl (fun(t:Array Value) (q:Nat×Value)=>t.setIfInBounds q.1 q.2) t).size=N∧
   ∀i,R E (D9 (A8r sl b e) i) (((b.zip d).foldl (fun(t:Array Value) (q:Nat×Value)=>t.setIfInBounds q.1 q.2) t).getD i Go.undef)
 | [],e,d,sl,t,_,_,ht,_,h=>⟨ht,h⟩
 |p::b,[],[],sl,t,_,_,ht,_,h=>⟨ht,h⟩
 |p::b,[],_::_,_,_,hl,_,_,_,_=>by simp at hl
 |p::b,_::_,[],_,_,hl,_,_,_,_=>by simp at hl
 | p::b,a::e,v::d,sl,t,hl,hp,ht,hR,h=>by
  rw [A8r,List.zip_cons_cons,List.foldl_cons]
  refine C1S b e d (I2 sl p a) _ Qa (fun i f=>hp i (List.mem_cons_of_mem _ f)) (by simp [ht]) (fun i c v j k=>hR (i+1) c v (by simpa using j) (by simpa using k)) fun i=> ?_
  have g:=hp p List.mem_cons_self
  rw [I6]
  by_cases f:p=i
  ·subst f
   rw [if_pos rfl]
   have:(t.setIfInBounds p v).getD p Go.undef=v:=by simp [Array.getD,ht,g]
   rw [this]
   exact hR 0 a v rfl rfl
  ·rw [if_neg f]
   have:(t.setIfInBounds p v).getD i Go.undef=t.getD i Go.undef:=by
    simp only [Array.getD_eq_getD_getElem?,Array.getElem?_setIfInBounds]
    rw [if_neg f]
   rw [this];exact h i
theorem V5.enter{P:Program}{b st N:Nat}{sl:List (Nat×V)}{p:List Nat}{x y:AC}{j:Option Code}{k:List V}{h:A2}{n:Nat}{Q:Res}(Y:A2.get h b st=some (.loop N sl p (A2u P N x y) .ready j))(hl:k.length=p.length)
  (o: ∀T,OK ⟨P,T,N,Q,0,some (b,st)⟩ [.code x,.beg,.code y] ⟨A8r sl p k,h,n⟩):V5 P b st k h n Q:=by
 intro w O ρ d B l z
 obtain⟨r,J,g2,g3,C,I,G,U,⟨⟨B1,g7⟩,B2,K⟩,_⟩:=B.loopSet Y
 refine⟨r,J,?_,trivial,fun D F _=> ?_⟩
 ·have h1:=z.1
  have:r.params.size=p.length:=by rw [←C];simp
  omega
 ·have g:(r.params.zip d).foldl (fun e (t,a)=>e.setIfInBounds t a) r.tmps=(p.zip d.toList).foldl (fun(t:Array Value) (q:Nat×Value)=>t.setIfInBounds q.1 q.2) r.tmps:=by
   rw [←Array.foldl_toList,Array.toList_zip,C]
  have f:=C1S (E:=A8 w O ρ n h) p k d.toList sl r.tmps (by simpa using z.1) G I (fun i c v S M=>z.2 i c v S (by simpa using M)) U
  let u:Frame:={(default:Frame)with fn:=r.fn,kind:= .normal,roundOf:=some (ρ st).blk}
  have s:Frame.round (ρ st).blk r.fn ((r.params.zip d).foldl (fun e (t,a)=>e.setIfInBounds t a) r.tmps) r.assign r.body .normal=
    u.atR {tmps:=(p.zip d.toList).foldl (fun(t:Array Value) (q:Nat×Value)=>t.setIfInBounds q.1 q.2) r.tmps,defers:= []} [.code r.assign,.beginRound,.code r.body]:=by
   rw [g]
   simp [Frame.round,Frame.atR,u]
  have m:=o default O ρ {tmps:=(p.zip d.toList).foldl (fun(t:Array Value) (q:Nat×Value)=>t.setIfInBounds q.1 q.2) r.tmps,defers:= []} w [.code r.assign,.beginRound,.code r.body] u (D::F) B ⟨f.1,Nat.zero_le _,.nil,f.2⟩ ⟨l,rfl,rfl⟩ (.code g7 (.beg (.code K .nil)))
  obtain⟨L,ρ',Z,H,v,x',A,W,q3,R,X⟩:=m D F rfl
  rw [←s]at A
  exact⟨.returned v,L,⟨v,x',Z,H,ρ',rfl,X,W,q3,R⟩,stepsIn_wide.2 A⟩
def C4e(nm st:Nat)(sl:List (Nat×V))(K:Option Code→St→Prop):Res:=fun _ h n=>
 match A2.get h nm st with
 |some (.loop _ _ _ _ s pend)=>s≠ .busy∧K pend ⟨sl,A2.del h nm,n⟩
 |_=>False
def D6M(c:Cx)(k:List AItem):Option Code→St→Prop
 |none,s=>OK c k s
 |some .ret,s=>OK c (.code .ret::k) s
 |some (.exit id),s=>OK c (.code (.exit id)::k) s
 |_,_=>False
theorem OK.rng{nm:Nat}{g:Opd}{ps:List Nat}{x y:AC}{f:FuncId}{cs:List V}(hrd:c.rd=none)(hf:s.ev g= .fn f cs)(hb:K8 c.P f=true)
  (h:A0 c.P f (.yld nm s.n::cs) (A2.put s.h nm s.n (.loop c.N s.sl ps (A2u c.P c.N x y) .ready none)) (s.n+1) (C4e nm s.n s.sl (D6M c k))):OK c (.code (.rng nm g ps x y)::k) s:=by
 intro O ρ a w k' b q hr F S hk
 have hd0:=S
 rw [hrd]at S
 cases hk with
 | code n hk=>
  rename_i cd k'
  cases cd<;>simp only [Y6]at n<;>try (cases n;done)
  case rangeFunc g' ps' x' y'=>
   split at n
   ·rename_i g2 x2 y2 hg' hx' hy'
    split at n
    ·rename_i hps
     injection n with n
     injection n with e1 e2 e3 e4 e5
     subst e2;subst e3;subst e4;subst e5
     generalize nm=o at*
     have hev:=(F.evr hr.gl).ev hg'
     rw [hf]at hev
     obtain⟨vs,M,hRL⟩:=hev.fn_inv
     have hps': ∀i∈ps'.toList,i<c.N:=fun i hi=>Nat.le_of_ble_eq_true (List.all_eq_true.1 hps i hi)
     have m:=run_enterLoop_outer (P:=c.P) (w:=w) b.fn a.tmps ps' x' y'
     generalize Y:(Loop.mk LoopState.ready none b.fn a.tmps ps' x' y' w.heap.size)=L at m
     generalize H:(w.alloc (.deferred (some []))).alloc (.loop L)=u at m
     rw [←S]at m
     -- the new world
     obtain⟨hr0,hx0⟩:=hr.world (w':=w.alloc (.deferred (some []))) (Wd.alloc w _) (fun z hz=>by show (w.heap.push _)[z]? =_;rw [Array.getElem?_push,if_neg (Nat.ne_of_lt hz)])
     let ρ1:Nat→Loc:=fun st=>if st=s.n then⟨w.heap.size+1,0,0,1⟩else ρ st
     have hρ1: ∀st,st<s.n→ρ1 st=ρ st:=fun st hst=>by simp [ρ1,Nat.ne_of_lt hst]
     have A:ρ1 s.n=⟨w.heap.size+1,0,0,1⟩:=by simp [ρ1]
     have hnew:u.heap[w.heap.size+1]? =some (.loop L):=by
      have:=World.alloc_heap_new (w.alloc (.deferred (some []))) (.loop L)
      rw [World.size_alloc,H]at this
      exact this
     have I:u.heap[w.heap.size]? =some (.deferred (some [])):=by
      rw [←H]
      show ((w.heap.push _).push _)[w.heap.size]? =_
      rw [Array.getElem?_push,if_neg zf,Array.getElem?_push,if_pos rfl]
     obtain⟨hr1,hx1⟩:=HeapR.step (w':=u) (ρ':=ρ1) (n':=s.n+1) (b:=o) (st:=s.n) (x:= .loop c.N s.sl ps'.toList (A2u c.P c.N x2 y2) .ready none) hr0 (Nat.le_succ _) hρ1 (Nat.lt_succ_self _)
      (by rw [←H];exact Wd.alloc _ _) (fun z hz _=>by rw [←H];show ((w.alloc _).heap.push _)[z]? =_;rw [Array.getElem?_push,if_neg (Nat.ne_of_lt hz)])
      (.inr (.inl (by rw [A,World.size_alloc];exact Nat.le_refl _)))
      (fun hx=>⟨by show (ρ1 s.n).cap≠0;rw [A];simp,hps',L,by show u.heap[(ρ1 s.n).blk]? =_;rw [A];exact hnew,by rw [←Y],by rw [←Y],by rw [←Y],by rw [←Y];exact F.size,fun i=>by rw [←Y];exact((F.slot i).mono hx0).mono hx,by rw [←Y];exact⟨⟨_,hx'⟩,_,hy'⟩⟩)
     have K:=hx0.trans hx1
     have hyv:R (A8 u O ρ1 (s.n+1) (A2.put s.h o s.n (.loop c.N s.sl ps'.toList (A2u c.P c.N x2 y2) .ready none))) (.yld o s.n) (.func (.yield (w.heap.size+1)) #[] #[]):=by
      have:=R.yld (E:=A8 u O ρ1 (s.n+1) (A2.put s.h o s.n (.loop c.N s.sl ps'.toList (A2u c.P c.N x2 y2) .ready none))) o s.n (Nat.lt_succ_self _)
      simp only [A]at this
      exact this
     have T:RL (A8 u O ρ1 (s.n+1) (A2.put s.h o s.n (.loop c.N s.sl ps'.toList (A2u c.P c.N x2 y2) .ready none))) (.yld o s.n::cs) (#[.func (.yield (w.heap.size+1)) #[] #[]]++vs):=by
      refine⟨by simp [hRL.1];omega,fun i c0 v n M=> ?_⟩
      cases i with
      |zero=>
       rw [Array.getElem?_append_left zf]at M
       simp at n M
       subst n;subst M
       exact hyv
      |succ i=>
       simp only [List.getElem?_cons_succ]at n
       rw [Array.getElem?_append_right zf]at M
       simp only [List.size_toArray,List.length_cons,List.length_nil,Nat.zero_add,Nat.add_sub_cancel]at M
       exact(hRL.2 i c0 v n M).mono K
     have evc:a.eval (.const (.func (.yield (w.heap.size+1)) #[] #[]))= .func (.yield (w.heap.size+1)) #[] #[]:=rfl
     have hres:(resolve a.eval (rangeCall g' (w.heap.size+1)) 0).run c.P u= .ok {target:= .fn (.func f) vs,args:= #[.func (.yield (w.heap.size+1)) #[] #[]]} u:=by
      simp [resolve,Deferred.ofValue,M,evc]
     have hinv:(invoke (.fn (.func f) vs) #[.func (.yield (w.heap.size+1)) #[] #[]]).run c.P u= .ok (.enter f (#[.func (.yield (w.heap.size+1)) #[] #[]]++vs)) u:=by
      simp [invoke,A4K hb]
     have s1:=stepR_rangeFunc (P:=c.P) (b:=b) (a:=a) (k:=k') (cs:=q) (w:=w) m hres hinv
     obtain⟨e,w3,fr,⟨v,r,h',n',ρ',rfl,hQ,hr3,hRv,hx3⟩,p,hfn,G⟩:=h u O ρ1 _ hr1 T (b.atR {a with defers:= [{target:= .collected w.heap.size,args:= #[]}]++a.defers} (.inRangeFunc (w.heap.size+1)::k')::q)
     unfold C4e at hQ
     split at hQ
     ·rename_i N2 sl2 ps2 p2 st2 pend hg
      obtain⟨N,hK⟩:=hQ
      obtain⟨Z,g1,g2,g3,g4,g5,_,g6,g7,g8⟩:=hr3.loopSet hg
      subst g3
      obtain⟨g9,g10⟩:=g8 .exhausted Z.pending
      have hblk:(ρ' s.n).blk=w.heap.size+1:=by
       have h9:ρ' s.n=ρ1 s.n:=hx3.ρ s.n (Nat.lt_succ_self _)
       rw [h9,A]
      rw [hblk]at g1 g9 g10
      have hend:=run_endLoop (P:=c.P) g1 (by rw [g2];exact N)
      obtain⟨W,hx4⟩:=g9.drop (h':=A2.del h' o) (fun e D=>List.mem_cons_of_mem _ D)
      have J:=(hx3.trans g10).trans hx4
      have l:=K.trans J
      have s2:=stepR_endRangeFunc (P:=c.P) (b:=b) (a:={a with defers:= [{target:= .collected w.heap.size,args:= #[]}]++a.defers}) (k:=k') (cs:=q) hend
      have sm:=step_leave_returned (P:=c.P) (cs:=q) (c:=b.atR {a with defers:= [{target:= .collected w.heap.size,args:= #[]}]++a.defers} (.inRangeFunc (w.heap.size+1)::k')) G
      rw [finish_atR_inRangeFunc]at sm
      have p:Steps c.P _ _:=p
      have sall:=Steps.head s1 (p.trans (.head sm (.one s2)))
      have hno: ¬Own ρ1 (A2.put s.h o s.n (.loop c.N s.sl ps'.toList (A2u c.P c.N x2 y2) .ready none)) w.heap.size:=by
       rintro⟨e,D,hc1,U⟩
       rcases List.mem_cons.1 D with rfl|D
       ·simp only [A]at U
        omega
       ·have D:=(A2.mem_del.1 D).1
        rw [hρ1 _ (hr.lt e D)]at hc1 U
        have:=hr.real ⟨e,D,hc1,U⟩
        omega
      have X:w.heap.size<u.heap.size:=(Array.getElem?_eq_some_iff.1 I).1
      obtain⟨d1,d2⟩:=J.blk w.heap.size X hno
      have C:Sim c.P c.bs c.N (A8 (w3.putObj (w.heap.size+1) (.loop {Z with state:= .exhausted,pending:=Z.pending})) O ρ' n' (A2.del h' o)) s.sl {a with defers:= [{target:= .collected w.heap.size,args:= #[]}]++a.defers}:=by
       refine⟨F.size,Nat.le_trans F.base l.size,⟨?_,fun d S=> ?_⟩,fun i=>(F.slot i).mono l⟩
       ·refine List.pairwise_cons.2 ⟨fun d' hm D=> ?_,F.defers.1⟩
        subst D
        rcases F.defers.2 _ hm with hq|⟨r',e,_,_,h4⟩
        ·exact hq
        injection e with e
        injection e with e
        subst e
        have:=(Array.getElem?_eq_some_iff.1 h4).1
        exact absurd this (Nat.lt_irrefl _)
       ·rcases List.mem_cons.1 S with rfl|S
        ·exact .inr ⟨w.heap.size,rfl,F.base,d2,d1.trans I⟩
        ·exact(F.defers.mono l).2 d S
      have Q:=hd0.mono l.n l.ρ
      obtain⟨j,hj⟩: ∃j,j=Z.pending:=⟨_,rfl⟩
      have t:Steps c.P (lone (b.atR a (.code (.rangeFunc g' ps' x' y')::k')) q w) (lone (b.atR {a with defers:= [{target:= .collected w.heap.size,args:= #[]}]++a.defers} ((j.map Item.code).toList++k')) q (w3.putObj (w.heap.size+1) (.loop {Z with state:= .exhausted,pending:=Z.pending}))):=by
       rw [hj];exact sall
      rw [←hj]at hK
      cases j with
      |none=>exact(hK O ρ' _ _ k' b q W C Q hk).step t l
      |some cd=>
       cases cd<;>first|(exact hK.elim)|skip
       ·exact(hK O ρ' _ _ _ b q W C Q (.code (B:=0) rfl hk)).step t l
       ·exact(hK O ρ' _ _ _ b q W C Q (.code (B:=0) rfl hk)).step t l
     ·exact hQ.elim
    ·cases n
   ·cases n
  all_goals first|(split at n<;>first|(cases n;done)|(split at n<;>cases n))|(rw [Option.map_eq_some_iff]at n;obtain⟨_,_,n⟩:=n;cases n)
end
end Go.Abs
