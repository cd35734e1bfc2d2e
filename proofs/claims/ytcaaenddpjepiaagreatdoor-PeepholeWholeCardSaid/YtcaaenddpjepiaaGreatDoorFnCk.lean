/-
 Instructions: their fields, forms and errors, as data. No program, no condition.
-/
import Derived.Test.YtcaaenddpjepiaaGreatDoorExe
import Derived.Test.YtcaaenddpjepiaaGreatDoorTsub
import Derived.Test.YtcaaenddpjepiaaGreatDoorChecked
import Derived.Test.YtcaaenddpjepiaaGreatDoorCode
set_option linter.unusedVariables false
set_option linter.unusedSimpArgs false
set_option maxRecDepth 100000
set_option maxHeartbeats 0
namespace Go.Proofs.YtcaaenddpjepiaaGreatDoor
section
open Go.Abs
structure Ins where
 op:Int
 a:Int
 b:Int
 c:Int
 d:Int
 deriving DecidableEq,Inhabited
def Ins.row(i:Ins):List V:= [.int .i64 i.op,.int .i64 i.a,.int .i64 i.b,.int .i64 i.c,.int .i64 i.d]
def Ins.v(i:Ins):V:= .agg i.row
structure Frm where
 word:List UInt8
 a:Int
 b:Int
 c:Int
 d:Int
 room:Int
 deriving DecidableEq,Inhabited
def Frm.row(f:Frm):List V:= [.str f.word,.int .i64 f.a,.int .i64 f.b,.int .i64 f.c,.int .i64 f.d,.int .i64 f.room]
def Frm.v(f:Frm):V:= .agg f.row
def D0j:List (List UInt8):= [[109,111,118,101],[99,111,110,115,116],[110,105,108],[98,111,111,108],[117,112,103,101,116],[117,112,115,101,116],[103,108,111,98,97,108],[115,101,116,103,108,111,98],[103,101,116],[115,101,116],[115,101,108,102],[117,110,97,114,121],[98,105,110,97,114,121],[106,117,109,112],[116,101,115,116],[99,97,108,108],[116,97,105,108],[114,101,116,117,114,110],[118,97,114,97,114,103],[116,97,98,108,101],[97,112,112,101,110,100],[99,108,111,115,117,114,101],[112,114,101,112],[108,111,111,112],[105,116,101,114],[110,101,120,116],[99,108,111,115,101],[109,97,114,107],[115,116,97,116]]
def C1h:List Frm:= [
 ⟨[],0,0,0,0,0⟩,⟨[],1,1,0,0,0⟩,⟨[],1,2,0,0,0⟩,⟨[],1,1,0,0,0⟩,⟨[],1,8,0,0,0⟩,⟨[],1,3,0,0,0⟩,⟨[],3,1,0,0,0⟩,⟨[],1,2,0,0,0⟩,⟨[],2,1,0,0,0⟩,⟨[],1,1,1,0,0⟩,
 ⟨[],1,1,1,0,0⟩,⟨[],1,1,2,0,1⟩,⟨[],1,1,9,0,0⟩,⟨[],1,1,1,10,0⟩,⟨[],0,5,0,0,0⟩,⟨[],1,5,8,0,0⟩,⟨[],1,7,6,0,0⟩,⟨[],1,7,0,0,0⟩,⟨[],1,7,0,0,0⟩,⟨[],1,6,0,0,0⟩,
 ⟨[],1,0,0,0,0⟩,⟨[],1,7,12,0,0⟩,⟨[],1,4,0,0,0⟩,⟨[],1,5,0,0,3⟩,⟨[],1,5,0,0,3⟩,⟨[],1,0,11,0,3⟩,⟨[],1,5,0,0,3⟩,⟨[],1,0,0,0,0⟩,⟨[],1,0,0,0,0⟩,⟨[],8,0,0,0,0⟩]
def u6(op:Int):Bool:=decide (1≤op∧op≤29)
def B3E(n:Nat):Frm:={C1h.getD n default with word:=D0j.getD (n-1) []}
def frm(op:Int):Frm:=if u6 op then B3E op.toNat else⟨[],0,0,0,0,0⟩
def C1y:List Int:= [0,0,0,0,0,0, -1, -1,0,20,1,1,1]
def B4u:List Int:= [0,4095,4095,59,1023,16383,200,4096,1,23,19,200,32767]
def low(k:Int):Int:=C1y.getD k.toNat 0
def high(k:Int):Int:=B4u.getD k.toNat 0
def Frm.ks(f:Frm):List Int:= [f.a,f.b,f.c,f.d]
def Ins.fs(i:Ins):List Int:= [i.a,i.b,i.c,i.d]
def A9k(f:Frm)(i:Ins):Int:=
 if i.op=16 then mm2 true (i.a+i.b) (i.a+i.c-1)
 else if i.op=17∨i.op=21 then i.a+i.b
 else if i.op=18∨i.op=19 then i.a+i.b-1
 else if i.op=25 then i.a+2+i.c
 else i.a+f.room
def A5a(k x:Int):Bool:=decide (k=0→x=0)
def A4j(k x:Int):Bool:=decide (low k≤x∧x≤high k)
def chk(i:Ins):Int:=
 if u6 i.op=false then 4
 else
  let f:=frm i.op
  if (A5a f.a i.a&&A5a f.b i.b&&A5a f.c i.c&&A5a f.d i.d)=false then 4
  else if (A4j f.a i.a&&A4j f.b i.b&&A4j f.c i.c&&A4j f.d i.d)=false then 6
  else if f.a=1∧A9k f i≥4096∨i.op=3∧i.b<i.a then 6
  else 0
def G9(op:Int):Bool:=decide (op=14∨op=15∨op=23∨op=24∨op=26)
def V9(op:Int):Bool:=decide (op≠14∧op≠17∧op≠18)
theorem A7c{o:Int}(h:u6 o=true):o=1∨o=2∨o=3∨o=4∨o=5∨o=6∨o=7∨o=8∨o=9∨o=10∨o=11∨o=12∨o=13∨o=14∨o=15∨o=16∨o=17∨o=18∨o=19∨o=20∨o=21∨o=22∨o=23∨o=24∨o=25∨o=26∨o=27∨o=28∨o=29:=by
 unfold u6 at h
 have:=of_decide_eq_true h
 omega
theorem C1k{o:Int}(h:u6 o=true): ∃n:Nat,o=n∧1≤n∧n≤29:=by
 have:=of_decide_eq_true h
 exact⟨o.toNat,by omega,by omega,by omega⟩
structure Shp where
 word:List UInt8
 ha:Bool
 hb:Bool
 hc:Bool
 hd:Bool
 la:Int
 lb:Int
 lc:Int
 ld:Int
 ma:Int
 mb:Int
 mc:Int
 md:Int
 deriving DecidableEq,Inhabited
def Shp.row(s:Shp):List V:= [.str s.word,.bool s.ha,.bool s.hb,.bool s.hc,.bool s.hd,.int .i64 s.la,.int .i64 s.lb,.int .i64 s.lc,.int .i64 s.ld,.int .i64 s.ma,.int .i64 s.mb,.int .i64 s.mc,.int .i64 s.md]
def Shp.v(s:Shp):V:= .agg s.row
def C7q(n:Nat):Shp:=
 let f:=B3E n
 let h:=fun k=> !decide (k=(0:Int))
 ⟨f.word,h f.a,h f.b,h f.c,h f.d,low f.a,low f.b,low f.c,low f.d,high f.a-f.room,high f.b,high f.c,high f.d⟩
def shp(op:Int):Shp:=if u6 op then C7q op.toNat else⟨[],false,false,false,false,0,0,0,0,0,0,0,0⟩
def mx(a b:Int):Int:=mm2 true a b
def B3I(i:Ins):Int:=
 if i.op=16 then mx (i.a+mx i.b 0) (i.a+i.c-1)
 else if i.op=17∨i.op=21 then i.a+mx i.b 0
 else if i.op=18∨i.op=19 then i.a+i.b-1
 else if i.op=25 then i.a+2+i.c
 else 0
def X5(h:Bool)(x:Int):Bool:=h||decide (x=0)
def X6(h:Bool)(l m x:Int):Bool:= !h||decide (l≤x∧x≤m)
def C6V(i:Ins):Int:=
 if u6 i.op=false then 4
 else
  let s:=shp i.op
  if (X5 s.ha i.a&&X5 s.hb i.b&&X5 s.hc i.c&&X5 s.hd i.d)=false then 4
  else if (X6 s.ha s.la s.ma i.a&&X6 s.hb s.lb s.mb i.b&&X6 s.hc s.lc s.mc i.c&&X6 s.hd s.ld s.md i.d)=false then 6
  else if i.op=3∧i.b<i.a∨B3I i>4095 then 6
  else 0
theorem D1j(i:Ins):C6V i=chk i:=by
 unfold C6V chk
 cases h:u6 i.op with
 |false=>simp
 |true=>
  obtain⟨o,a,b,c,d⟩:=i
  simp only at h⊢
  rcases A7c h with rfl|rfl|rfl|rfl|rfl|rfl|rfl|rfl|rfl|rfl|rfl|rfl|rfl|rfl|rfl|rfl|rfl|rfl|rfl|rfl|rfl|rfl|rfl|rfl|rfl|rfl|rfl|rfl|rfl<;>
  (simp [frm,shp,C7q,B3E,C1h,u6,A5a,A4j,X5,X6,low,high,C1y,B4u,A9k,B3I,mx,mm2];try (repeat' split)<;>omega)
theorem A4g{i:Ins}(h:chk i=0):u6 i.op=true∧ -1≤i.a∧i.a≤4095∧ -1≤i.b∧i.b≤16383∧ -1≤i.c∧i.c≤32767∧0≤i.d∧i.d≤19∧0≤i.a:=by
 unfold chk at h
 cases ho:u6 i.op with
 |false=>rw [ho]at h;simp at h
 |true=>
  obtain⟨o,a,b,c,d⟩:=i
  simp only at h ho⊢
  rcases A7c ho with rfl|rfl|rfl|rfl|rfl|rfl|rfl|rfl|rfl|rfl|rfl|rfl|rfl|rfl|rfl|rfl|rfl|rfl|rfl|rfl|rfl|rfl|rfl|rfl|rfl|rfl|rfl|rfl|rfl<;>
  (simp [frm,B3E,C1h,u6,A5a,A4j,low,high,C1y,B4u,A9k,mm2]at h;refine⟨trivial,?_⟩;omega)
end
section
open Go.Abs
structure Kst where
 kind:Int
 p:Int
 q:Int
 str:List UInt8
 ref:Int
 deriving DecidableEq,Inhabited
structure Vr where
 name:List UInt8
 reg:Int
 lo:Int
 hi:Int
 attr:Int
 deriving DecidableEq,Inhabited
structure Upv where
 name:List UInt8
 loc:Bool
 idx:Int
 deriving DecidableEq,Inhabited
structure Fn where
 name:List UInt8
 line:Int
 params:Int
 vararg:Bool
 regs:Int
 code:List Ins
 lines:List Int
 consts:List Kst
 protos:List Fn
 ups:List Upv
 vars:List Vr
 deriving Inhabited
def Kst.row(v:Kst):List V:= [.int .i64 v.kind,.int .i64 v.p,.int .i64 v.q,.str v.str,.int .i64 v.ref]
def Vr.row(v:Vr):List V:= [.str v.name,.int .i64 v.reg,.int .i64 v.lo,.int .i64 v.hi,.int .i64 v.attr]
def Upv.row(u:Upv):List V:= [.str u.name,.bool u.loc,.int .i64 u.idx]
def D1(z:Int):List V:= [.int .i64 z]
mutual
def Fn.row:Fn→List V
 |⟨name,line,params,vararg,regs,code,lines,consts,protos,ups,vars⟩=>
  [.str name,.int .i64 line,.int .i64 params,.bool vararg,.int .i64 regs,.isl (code.map Ins.row),.isl (lines.map D1),.isl (consts.map Kst.row),.isl (Fn.rows protos),.isl (ups.map Upv.row),.isl (vars.map Vr.row)]
def Fn.rows:List Fn→List (List V)
 | []=> []
 |p::r=>Fn.row p::Fn.rows r
end
theorem Fn.rows_map: ∀l:List Fn,Fn.rows l=l.map Fn.row
 | []=>rfl
 |p::r=>by rw [Fn.rows,Fn.rows_map r];rfl
theorem Fn.row_eq(p:Fn):p.row= [.str p.name,.int .i64 p.line,.int .i64 p.params,.bool p.vararg,.int .i64 p.regs,.isl (p.code.map Ins.row),.isl (p.lines.map D1),.isl (p.consts.map Kst.row),.isl (p.protos.map Fn.row),.isl (p.ups.map Upv.row),.isl (p.vars.map Vr.row)]:=by
 obtain⟨a,b,c,d,e,f,g,h,i,j,k⟩:=p
 rw [Fn.row,Fn.rows_map]
theorem Fn.row_len(p:Fn):p.row.length=11:=by rw [Fn.row_eq];rfl
mutual
theorem Fn.ind{C:Fn→Prop}(h: ∀p,(∀q∈p.protos,C q)→C p): ∀p:Fn,C p
 |⟨a,b,c,d,e,f,g,i,l,j,k⟩=>h _ (Fn.inds h l)
theorem Fn.inds{C:Fn→Prop}(h: ∀p,(∀q∈p.protos,C q)→C p): ∀l:List Fn,∀q∈l,C q
 | []=>fun q a=>by cases a
 |p::r=>fun q a=>(List.mem_cons.1 a).elim (fun e=>e ▸ Fn.ind h p) (Fn.inds h r q)
end
mutual
def Fn.wf:Fn→Prop
 |⟨name,_,_,_,_,code,lines,consts,protos,ups,vars⟩=>name.length≤reachBytes∧code.length≤reachBytes∧lines.length≤reachBytes∧consts.length≤reachBytes∧protos.length≤reachBytes∧ups.length≤reachBytes∧vars.length≤reachBytes∧Fn.wfs protos
def Fn.wfs:List Fn→Prop
 | []=>True
 |p::r=>Fn.wf p∧Fn.wfs r
end
theorem Fn.wfs_mem: ∀{l:List Fn},Fn.wfs l↔ ∀q∈l,Fn.wf q
 | []=>by simp [Fn.wfs]
 |p::r=>by rw [Fn.wfs,Fn.wfs_mem,List.forall_mem_cons]
theorem Fn.wf_iff(p:Fn):p.wf↔p.name.length≤reachBytes∧p.code.length≤reachBytes∧p.lines.length≤reachBytes∧p.consts.length≤reachBytes∧p.protos.length≤reachBytes∧p.ups.length≤reachBytes∧p.vars.length≤reachBytes∧ ∀q∈p.protos,q.wf:=by
 obtain⟨a,b,c,d,e,f,g,h,i,j,k⟩:=p
 rw [Fn.wf,Fn.wfs_mem]
mutual
def Fn.each:Fn→List Fn
 |⟨a,b,c,d,e,f,g,h,l,j,k⟩=>⟨a,b,c,d,e,f,g,h,l,j,k⟩::Fn.eachs l
def Fn.eachs:List Fn→List Fn
 | []=> []
 |p::r=>Fn.each p++Fn.eachs r
end
theorem Fn.each_eq(p:Fn):p.each=p::Fn.eachs p.protos:=by
 obtain⟨a,b,c,d,e,f,g,h,i,j,k⟩:=p
 rw [Fn.each]
theorem Fn.eachs_append: ∀l m:List Fn,Fn.eachs (l++m)=Fn.eachs l++Fn.eachs m
 | [],_=>rfl
 |p::r,m=>by rw [List.cons_append,Fn.eachs,Fn.eachs,Fn.eachs_append r m,List.append_assoc]
theorem Fn.eachs_one(p:Fn):Fn.eachs [p]=p.each:=by rw [Fn.eachs,Fn.eachs,List.append_nil]
theorem Fn.mem_eachs{q:Fn}: ∀{l:List Fn},q∈Fn.eachs l↔ ∃p∈l,q∈p.each
 | []=>by simp [Fn.eachs]
 |p::r=>by simp [Fn.eachs,Fn.mem_eachs (l:=r)]
theorem Fn.self_mem(p:Fn):p∈p.each:=by rw [Fn.each_eq];exact List.mem_cons_self
theorem Fn.each_pos(p:Fn):1≤p.each.length:=by rw [Fn.each_eq];simp
theorem Fn.eachs_len: ∀l:List Fn,l.length≤(Fn.eachs l).length
 | []=>Nat.le_refl _
 |p::r=>by
  have:=Fn.each_pos p
  have:=Fn.eachs_len r
  rw [Fn.eachs];simp;omega
theorem Fn.each_trans(p:Fn): ∀q∈p.each,∀x∈q.each,x∈p.each:=by
 induction p using Fn.ind with
 | h p i=>
  intro q a x c
  rw [Fn.each_eq]at a
  rcases List.mem_cons.1 a with rfl|a
  ·exact c
  ·obtain⟨r,b,a⟩:=Fn.mem_eachs.1 a
   rw [Fn.each_eq]
   exact List.mem_cons_of_mem _ (Fn.mem_eachs.2 ⟨r,b,i r b q a x c⟩)
theorem Fn.child_mem{p q x:Fn}(a:q∈p.each)(h:x∈q.protos):x∈p.each:=
 Fn.each_trans p q a x (by rw [Fn.each_eq];exact List.mem_cons_of_mem _ (Fn.mem_eachs.2 ⟨x,h,Fn.self_mem x⟩))
structure Fn.Le(p:Fn):Prop where
 code:p.code.length≤3518437208780
 lines:p.lines.length≤17592186043904
 consts:p.consts.length≤2932031007317
 protos:p.protos.length≤733007751829
 ups:p.ups.length≤4398046510976
 vars:p.vars.length≤2932031007317
def Fn.bd(p:Fn):Prop:= ∀q∈p.each,q.Le
theorem Fn.bd.self{p:Fn}(h:p.bd):p.Le:=h p p.self_mem
theorem Fn.bd.child{p q:Fn}(h:p.bd)(b:q∈p.protos):q.bd:=fun x a=>h x (Fn.each_trans p q (Fn.child_mem p.self_mem b) x a)
theorem Fn.bd.within{p q:Fn}(h:p.bd)(b:q∈p.each):q.bd:=fun x a=>h x (Fn.each_trans p q b x a)
mutual
def Fn.depth:Fn→Nat
 |⟨_,_,_,_,_,_,_,_,l,_,_⟩=>Fn.depths l+1
def Fn.depths:List Fn→Nat
 | []=>0
 |p::r=>max (Fn.depth p) (Fn.depths r)
end
theorem Fn.depth_eq(p:Fn):p.depth=Fn.depths p.protos+1:=by
 obtain⟨a,b,c,d,e,f,g,h,i,j,k⟩:=p
 rw [Fn.depth]
theorem D2{α:Type}(φ:Nat→Nat→Nat→Nat→V)(f:α→List V)(l:List α)(h: ∀x∈l,(f x).map (V.sub φ)=f x):(l.map f).map (fun r=>r.map (V.sub φ))=l.map f:=by
 rw [List.map_map]
 exact List.map_congr_left h
theorem Ins.row_sub(φ:Nat→Nat→Nat→Nat→V)(i:Ins):i.row.map (V.sub φ)=i.row:=by simp [Ins.row,V.sub]
theorem Kst.row_sub(φ:Nat→Nat→Nat→Nat→V)(i:Kst):i.row.map (V.sub φ)=i.row:=by simp [Kst.row,V.sub]
theorem Vr.row_sub(φ:Nat→Nat→Nat→Nat→V)(i:Vr):i.row.map (V.sub φ)=i.row:=by simp [Vr.row,V.sub]
theorem Upv.row_sub(φ:Nat→Nat→Nat→Nat→V)(i:Upv):i.row.map (V.sub φ)=i.row:=by simp [Upv.row,V.sub]
theorem B0b(φ:Nat→Nat→Nat→Nat→V)(i:Int):(D1 i).map (V.sub φ)=D1 i:=by simp [D1,V.sub]
theorem Fn.row_sub(φ:Nat→Nat→Nat→Nat→V)(p:Fn):p.row.map (V.sub φ)=p.row:=by
 induction p using Fn.ind with
 |h p i=>
  rw [Fn.row_eq]
  simp only [List.map_cons,List.map_nil,V.sub,K0]
  rw [D2 φ _ _ fun x _=>Ins.row_sub φ x,D2 φ _ _ fun x _=>B0b φ x,D2 φ _ _ fun x _=>Kst.row_sub φ x,D2 φ _ _ i,D2 φ _ _ fun x _=>Upv.row_sub φ x,D2 φ _ _ fun x _=>Vr.row_sub φ x]
theorem Fn.rows_sub(φ:Nat→Nat→Nat→Nat→V)(l:List Fn):(l.map Fn.row).map (fun r=>r.map (V.sub φ))=l.map Fn.row:=D2 φ _ _ fun x _=>Fn.row_sub φ x
theorem D0Q{r:List V}(h:Typed Tryz.prog 38 r): ∃i:Ins,r=i.row:=by
 have h:=h.fields Tryz.underlying38
 obtain⟨m,v,rfl,d,t,p,rfl,c,s,q,rfl,j,u,k,rfl,e,o,l,rfl,b,rfl⟩:=h
 obtain⟨f,rfl,_⟩:=d.int_inv Tryz.underlying3
 obtain⟨a,rfl,_⟩:=c.int_inv Tryz.underlying3
 obtain⟨n,rfl,_⟩:=j.int_inv Tryz.underlying3
 exact Ye
theorem D4E{r:List V}(h:Typed Tryz.prog 66 r): ∃u:Upv,r=u.row:=by
 have h:=h.fields Tryz.underlying66
 obtain⟨f,i,rfl,c,j,g,rfl,a,l,k,rfl,d,rfl⟩:=h
 obtain⟨b,rfl,_⟩:=c.str_inv Tryz.underlying9
 obtain⟨n,rfl⟩:=a.bool_inv Tryz.underlying4
 obtain⟨e,rfl,_⟩:=d.int_inv Tryz.underlying3
 exact⟨⟨b,n,e⟩,rfl⟩
theorem D4H{r:List V}(h:Typed Tryz.prog 69 r): ∃u:Vr,r=u.row:=by
 have h:=h.fields Tryz.underlying69
 obtain⟨l,v,rfl,d,s,o,rfl,c,q,p,rfl,i,t,j,rfl,e,m,k,rfl,b,rfl⟩:=h
 obtain⟨f,rfl,_⟩:=d.str_inv Tryz.underlying9
 obtain⟨a,rfl,_⟩:=c.int_inv Tryz.underlying3
 obtain⟨n,rfl,_⟩:=i.int_inv Tryz.underlying3
 exact Ye
theorem D0V{r:List V}(h:Typed Tryz.prog 63 r): ∃u:Kst,r=u.row:=by
 have h:=h.fields Tryz.underlying63
 obtain⟨m,y,rfl,c,v,o,rfl,a,q,p,rfl,j,x,k,rfl,e,rfl⟩:=h
 have a:=a.fields Tryz.underlying61
 obtain⟨s,t,rfl,g,l,w,rfl,d,rfl⟩:=a
 obtain⟨f,rfl,_⟩:=c.int_inv Tryz.underlying3
 obtain⟨b,rfl,_⟩:=g.int_inv Tryz.underlying3
 obtain⟨n,rfl,_⟩:=d.int_inv Tryz.underlying3
 obtain⟨n4,rfl,_⟩:=j.str_inv Tryz.underlying9
 obtain⟨i,rfl,_⟩:=e.int_inv Tryz.underlying3
 exact⟨⟨f,b,n,n4,i⟩,rfl⟩
theorem B3a{β:Type}{f:β→List V}{es:List (List V)}(h: ∀r∈es,∃z,r=f z): ∃a:List β,es=a.map f:=by
 obtain⟨a,d,_⟩:=rows_map (f:=f) (p:=fun _=>True) (es:=es) fun r b=>by obtain⟨z,c⟩:=h r b;exact⟨z,c,trivial⟩
 exact⟨a,d⟩
theorem D6B{t:TypeId}{a:List V}(h:Typed Tryz.prog t a):(t=29→ ∃p:Fn,a=p.row∧p.wf∧p.bd)∧(t=25→ ∃i:List Fn,a= [.isl (i.map Fn.row)]∧i.length≤reachBytes∧i.length*192≤reachBytes∧ ∀p∈i,p.wf∧p.bd):=by
 induction h with
 |bool h b=>exact⟨fun e=> Qb,fun e=> Qc⟩
 |int h n hn=>exact⟨fun e=> Qb,fun e=> Qc⟩
 |str h s hs=>exact⟨fun e=> Qb,fun e=> Qc⟩
 |slice h es x E he z=>
  refine⟨fun e=> Qb,fun e=> ?_⟩
  subst e
  rw [Tryz.underlying25]at h
  cases h
  obtain⟨i,rfl,W⟩:=rows_map (f:=Fn.row) (p:=fun p=>p.wf∧p.bd) fun a d=>(z a d).1 rfl
  have M:192≤Tryz.prog.bytesOf 29:=Nat.le_of_ble_eq_true zj
  have:=Nat.mul_le_mul_left (i.map Fn.row).length M
  rw [List.length_map]at this E
  exact⟨i,rfl,by simpa using x,Nat.le_trans this E,W⟩
 | struct h G x g z=>
  refine⟨fun e=> ?_,fun e=> Qc⟩
  subst e
  rw [Tryz.underlying29]at h
  cases h
  match G,x with
  | [x0,x1,x2,x3,x4,x5,x6,x7,x8,x9,x10],_=>
   obtain⟨X,rfl,T⟩:=(g 0 _ x0 rfl rfl).str_inv Tryz.underlying9
   obtain⟨L,rfl,_⟩:=(g 1 _ x1 rfl rfl).int_inv Tryz.underlying3
   obtain⟨U,rfl,_⟩:=(g 2 _ x2 rfl rfl).int_inv Tryz.underlying3
   obtain⟨P,rfl⟩:=(g 3 _ x3 rfl rfl).bool_inv Tryz.underlying4
   obtain⟨K,rfl,_⟩:=(g 4 _ x4 rfl rfl).int_inv Tryz.underlying3
   obtain⟨e5,rfl,D,B,O⟩:=(g 5 _ x5 rfl rfl).slice_invB Tryz.underlying22
   obtain⟨j,rfl⟩:=B3a fun a d=>D0Q (O a d)
   obtain⟨e6,rfl,F,C,Y⟩:=(g 6 _ x6 rfl rfl).slice_invB Tryz.underlying23
   obtain⟨l,rfl⟩:=B3a (f:=D1) fun a d=>by obtain⟨n,h,_⟩:=(Y a d).int_inv Tryz.underlying3;exact⟨n,h⟩
   obtain⟨e7,rfl,H,J,R⟩:=(g 7 _ x7 rfl rfl).slice_invB Tryz.underlying24
   obtain⟨c,rfl⟩:=B3a fun a d=>D0V (R a d)
   obtain⟨i,rfl,N,Z,m⟩:=(z 8 _ x8 rfl rfl).2 rfl
   obtain⟨e9,rfl,A,I,Q⟩:=(g 9 _ x9 rfl rfl).slice_invB Tryz.underlying26
   obtain⟨w,rfl⟩:=B3a fun a d=>D4E (Q a d)
   obtain⟨S,rfl,u,o,y⟩:=(g 10 _ x10 rfl rfl).slice_invB Tryz.underlying27
   obtain⟨v,rfl⟩:=B3a fun a d=>D4H (y a d)
   simp only [List.length_map]at D F H A u B C J I o
   have hB:reachBytes=140737488351232:=rfl
   rw [show Tryz.prog.bytesOf 38=40 from by kernel_rfl]at B
   rw [show Tryz.prog.bytesOf 3=8 from by kernel_rfl]at C
   rw [show Tryz.prog.bytesOf 63=48 from by kernel_rfl]at J
   rw [show Tryz.prog.bytesOf 66=32 from by kernel_rfl]at I
   rw [show Tryz.prog.bytesOf 69=48 from by kernel_rfl]at o
   refine⟨⟨X,L,U,P,K,j,l,c,i,w,v⟩,by rw [Fn.row_eq];rfl,(Fn.wf_iff _).2 ⟨T,D,F,H,N,A,u,fun q k=>(m q k).1⟩,fun q k=> ?_⟩
   rw [Fn.each_eq]at k
   rcases List.mem_cons.1 k with rfl|k
   ·exact⟨by show j.length≤_;omega,by show l.length≤_;omega,by show c.length≤_;omega,by show i.length≤_;omega,by show w.length≤_;omega,by show v.length≤_;omega⟩
   ·obtain⟨r,d,k⟩:=Fn.mem_eachs.1 k
    exact(m r d).2 q k
 |array h G x g=>exact⟨fun e=> Qb,fun e=> Qc⟩
theorem C8y{v:List V}(h:Typed Tryz.prog 29 v): ∃p:Fn,v=p.row∧p.wf∧p.bd:=(D6B h).1 rfl
end
section
open Go.Abs
attribute [local irreducible] A0 Run V5
theorem f9{d:Nat}{h:A2}{es:List (List V)}(a: ∀φ,es.map (fun r=>r.map (V.sub φ))=es):es.map (fun r=>r.map (frz d h))=es:=by
 obtain⟨φ,e⟩:=G8 (d:=d) (h:=h)
 rw [e];exact a φ
theorem C5S(es:List (List V))(b:C4 es 5)(d:es.length≤3518437208883)(c: ∀φ,es.map (fun r=>r.map (V.sub φ))=es):Pure Tryz.prog 124 [.isl es] (.isl es):=by
 have h:C4 es 5=True:=eq_true b
 have a:=eq_true d
 refine Pure.of 1 (A0.enter Q0 Jk (Run.go 100 ?_))
 exact XV
theorem C5T(es:List (List V))(b:C4 es 1)(d:es.length≤17592186044416)(c: ∀φ,es.map (fun r=>r.map (V.sub φ))=es):Pure Tryz.prog 89 [.isl es] (.isl es):=by
 have h:C4 es 1=True:=eq_true b
 have a:=eq_true d
 refine Pure.of 1 (A0.enter Y0 Jk (Run.go 100 ?_))
 exact XV
theorem C5U(es:List (List V))(b:C4 es 5)(d:es.length≤2932031007402)(c: ∀φ,es.map (fun r=>r.map (V.sub φ))=es):Pure Tryz.prog 125 [.isl es] (.isl es):=by
 have h:C4 es 5=True:=eq_true b
 have a:=eq_true d
 refine Pure.of 1 (A0.enter Q1 Jk (Run.go 100 ?_))
 exact XV
theorem C8b(es:List (List V))(b:C4 es 3)(d:es.length≤4398046511104)(c: ∀φ,es.map (fun r=>r.map (V.sub φ))=es):Pure Tryz.prog 126 [.isl es] (.isl es):=by
 have h:C4 es 3=True:=eq_true b
 have a:=eq_true d
 refine Pure.of 1 (A0.enter Y8 Jk (Run.go 100 ?_))
 exact XV
theorem C8c(es:List (List V))(b:C4 es 5)(d:es.length≤2932031007402)(c: ∀φ,es.map (fun r=>r.map (V.sub φ))=es):Pure Tryz.prog 127 [.isl es] (.isl es):=by
 have h:C4 es 5=True:=eq_true b
 have a:=eq_true d
 refine Pure.of 1 (A0.enter W1 Jk (Run.go 100 ?_))
 exact XV
theorem B3{α:Type}(f:α→List V)(sz:Nat)(h: ∀x,(f x).length=sz)(l:List α):C4 (l.map f) sz:=fun r a=>by
 obtain⟨y,_,rfl⟩:=List.mem_map.1 a
 exact h y
theorem C0S(p:Fn)(P:p.bd):Pure Tryz.prog 101 [.agg p.row] (.agg p.row):=by
 induction p using Fn.ind with
 | h p w=>
  have b:=P.self
  have c1:=C5S (p.code.map Ins.row) (B3 _ 5 (fun _=>rfl) _) (by rw [List.length_map];exact Nat.le_trans b.code zh) (fun φ=>D2 φ _ _ fun x _=>Ins.row_sub φ x)
  have Z:=C5T (p.lines.map D1) (B3 _ 1 (fun _=>rfl) _) (by rw [List.length_map];exact Nat.le_trans b.lines zh) (fun φ=>D2 φ _ _ fun x _=>B0b φ x)
  have U:=C5U (p.consts.map Kst.row) (B3 _ 5 (fun _=>rfl) _) (by rw [List.length_map];exact Nat.le_trans b.consts zh) (fun φ=>D2 φ _ _ fun x _=>Kst.row_sub φ x)
  have c4:=C8b (p.ups.map Upv.row) (B3 _ 3 (fun _=>rfl) _) (by rw [List.length_map];exact Nat.le_trans b.ups zh) (fun φ=>D2 φ _ _ fun x _=>Upv.row_sub φ x)
  have V:=C8c (p.vars.map Vr.row) (B3 _ 5 (fun _=>rfl) _) (by rw [List.length_map];exact Nat.le_trans b.vars zh) (fun φ=>D2 φ _ _ fun x _=>Vr.row_sub φ x)
  have N:=fun φ=>D2 φ _ p.code fun x _=>Ins.row_sub φ x
  have s1:=N C7
  have f1:=fun d h=>f9 (d:=d) (h:=h) N
  have Q:=fun φ=>D2 φ _ p.lines fun x _=>B0b φ x
  have s2:=Q C7
  have f2:=fun d h=>f9 (d:=d) (h:=h) Q
  have L:=fun φ=>D2 φ _ p.consts fun x _=>Kst.row_sub φ x
  have s3:=L C7
  have S:=fun d h=>f9 (d:=d) (h:=h) L
  have O:=fun φ=>D2 φ _ p.ups fun x _=>Upv.row_sub φ x
  have s4:=O C7
  have W:=fun d h=>f9 (d:=d) (h:=h) O
  have M:=fun φ=>D2 φ _ p.vars fun x _=>Vr.row_sub φ x
  have X:=M C7
  have f5:=fun d h=>f9 (d:=d) (h:=h) M
  refine Pure.of 1 (A0.enter A9q Jk ?_)
  rw [Fn.row_eq p]
  generalize p.code.map Ins.row=e1 at*
  generalize p.lines.map D1=v at*
  generalize p.consts.map Kst.row=K at*
  generalize p.ups.map Upv.row=C at*
  generalize p.vars.map Vr.row=e5 at*
  refine Run.go 100 ?_
  refine QM ?_
  refine A5f.pureF c1 (by simp -implicitDefEqProofs only [go_sem,s1]) ?_
  refine QL ?_
  refine A5f.pureF Z (by simp -implicitDefEqProofs only [go_sem,s2]) ?_
  refine QL ?_
  refine A5f.pureF U (by simp -implicitDefEqProofs only [go_sem,s3]) ?_
  refine QL ?_
  refine A5f.pureF c4 (by simp -implicitDefEqProofs only [go_sem,s4]) ?_
  refine QL ?_
  refine A5f.pureF V Qx ?_
  refine QL ?_
  have t:(p.protos.map Fn.row).length=p.protos.length:=List.length_map ..
  have hpl:=b.protos
  have z:=eq_true (B3 Fn.row 11 Fn.row_len p.protos)
  have g: ∀(k:Nat) q,p.protos[k]? =some q→(p.protos.map Fn.row)[k]? =some q.row:=fun k q n=>by rw [List.getElem?_map,n];rfl
  have c:=fun φ=>Fn.rows_sub φ p.protos
  have s: ∀(k:Nat) q,p.protos[k]? =some q→(p.protos.take (k+1)).map Fn.row=(p.protos.take k).map Fn.row++ [q.row]:=fun k q n=>by
   rw [List.take_add_one,n];simp
  have a: ∀k,((p.protos.take k).map Fn.row).length=min k p.protos.length:=fun k=>by simp
  have o:(p.protos.take p.protos.length).map Fn.row=p.protos.map Fn.row:=by rw [List.take_length]
  have f:(p.protos.take 0).map Fn.row= []:=rfl
  generalize hP:p.protos.map Fn.row=F at*
  generalize hT:(fun k=>(p.protos.take k).map Fn.row)=T
  have y: ∀k,(p.protos.take k).map Fn.row=T k:=fun k=>by rw [←hT]
  simp only [y]at s a o f
  refine Run.roundsK (fun(x:Nat×Nat×Nat)=>⟨[(29,.int .i64 x.1),(28,.int .i64 p.protos.length),(27,.isl F),(3,.sl (101*10000+37) x.2.1 0 x.1),(2,.ptr (101*10000+2) 1 0 0),(1,.ptr (101*10000+1) 0 0 0)],
    [((101*10000+37),x.2.1,.rows 11 (T x.1)),((101*10000+1),0,.rows 11 [[.str p.name,.int .i64 p.line,.int .i64 p.params,.bool p.vararg,.int .i64 p.regs,.isl e1,.isl v,.isl K,.isl F,.isl C,.isl e5]]),((101*10000+2),1,.rows 11 [[.str [],.int .i64 0,.int .i64 0,.bool false,.int .i64 0,.nils,.nils,.nils,.nils,.nils,.nils]])],x.2.2⟩)
   (fun x=>x.1≤p.protos.length) (fun x=>p.protos.length-x.1) (0,2,3) ?_ (Nat.zero_le _) ?_
  ·refine .trans (.fresh (101*10000+37) 11 _ _ _) (.turn id ⟨.refl _,.refl _,.refl _,.nils,.refl _,.refl _,trivial⟩ (.at 0 rfl rfl (.of_eq (by simp only [f])) (.at 1 rfl rfl (.refl _) (.at 2 rfl rfl (.refl _) trivial))))
  rintro⟨k,st,m⟩ n R
  simp only at n R⊢
  refine Run.unf A5n (Run.go 100 ?_)
  by_cases i:k<p.protos.length
  ·have q0:((k:Int)<(p.protos.length:Int))=True:=Ji
   have Y:((0:Int)≤(k:Int))=True:=Ji
   obtain⟨q,A⟩: ∃q,p.protos[k]? =some q:=⟨p.protos[k],by simp [i]⟩
   have j:q∈p.protos:=List.mem_of_getElem? A
   have G:=g k q A
   have u:=q.row_len
   have B:=Fn.row_sub C7 q
   have H:=w q j (P.child j)
   have l:(T k).length=k:=by rw [a];omega
   have I:=s k q A
   have D:((k:Int)+1)=((k+1:Nat):Int):=by omega
   have J:(k+1≤733007751850)=True:=Ji
   have E:(T k).take k=T k:=List.take_of_length_le zd
   have r:q.row.take 11=q.row:=List.take_of_length_le zd
   generalize q.row=qr at*
   simp -implicitDefEqProofs only [go_sem,q0,Y,t,z,G,Option.some.injEq,forall_eq',u,r,List.append_nil]
   refine⟨i,?_⟩
   refine A0.pureF H Qy ?_
   simp -implicitDefEqProofs only [go_sem,u,l,J,E,r]
   refine⟨by omega,?_⟩
   refine R _ (k+1,m+1,m+2) zg zg (C1.wk ?_)
   simp only [←D,I]
   exact ze
  ·have e:k=p.protos.length:=by omega
   subst e
   refine QN ?_
   have l:(T p.protos.length).length=p.protos.length:=by rw [a];omega
   have v:Nat.ble p.protos.length (T p.protos.length).length=true:=Nat.ble_eq_true_of_le zd
   have K:(T p.protos.length).take p.protos.length=F:=by rw [List.take_of_length_le zd,o]
   have C:=fun d h=>f9 (d:=d) (h:=h) c
   simp only [f1,f2,S,W,f5,K,if_pos (Nat.le_of_ble_eq_true v),C,and_self]
theorem B4(p:Fn):p.row.length=11∧p.row.take 11=p.row:=⟨p.row_len,List.take_of_length_le (by rw [p.row_len];exact Nat.le_refl _)⟩
theorem C6e(p:Fn)(n:Nat):A0 Tryz.prog 77 [.agg p.row] [] n fun r a b=>r= .fn 99 [.ptr (77*10000+1) n 0 0]∧a= [((77*10000+1),n,.rows 11 [p.row])]∧b=n+1:=by
 obtain⟨c,h⟩:=B4 p
 generalize p.row=e at*
 refine A0.enterK B1c Jk fun Q d=>Run.go 100 ?_
 simp -implicitDefEqProofs only [go_sem,A4,c,h]
 subst d
 exact .is ⟨rfl,rfl,rfl⟩
structure Rnds(nm st:Nat)(whole:List Fn)(J X:List Fn→A2→Nat→Prop):Prop where
 round: ∀pre q rest h n,whole=pre++q::rest→J pre h n→V5 Tryz.prog nm st [.agg q.row] h n fun r h' n'=>(r= .bool true∧J (pre++ [q]) h' n')∨(r= .bool false∧X (pre++ [q]) h' n')
 up: ∀pre h n n',n≤n'→J pre h n→J pre h n'
 apJ: ∀pre h n,J pre h n→A2t h (100*10000+2)∧A2t h (100*10000+6)
 apX: ∀pre h n,X pre h n→A2t h (100*10000+2)∧A2t h (100*10000+6)
theorem D0i{nm st:Nat}{w:List Fn}{J X:List Fn→A2→Nat→Prop}(v:Rnds nm st w J X)(p:Fn)(j:p.bd): ∀a b h n,w=a++p.each++b→J a h n→
  A0 Tryz.prog 100 [.agg p.row,.yld nm st] h n fun r C A=>(r= .bool true∧J (a++p.each) C A)∨(r= .bool false∧ ∃d q rest,w=d++q::rest∧X (d++ [q]) C A):=by
 induction p using Fn.ind with
 | h p S=>
  intro a b h n G V
  have hp8:=j.self.protos
  obtain⟨W,a2⟩:=v.apJ _ _ _ V
  have d1:=W.del
  have d2:=a2.del
  have g:=v.round a p (Fn.eachs p.protos++b) h (n+1) (by rw [G,Fn.each_eq];simp) (v.up _ _ _ _ (Nat.le_succ n) V)
  refine A0.enterK B1f Jk fun Q I=>Run.go 100 ?_
  obtain⟨h1,h2⟩:=B4 p
  have s:=p.row_eq
  have h8:p.row[8]? =some (.isl (p.protos.map Fn.row)):=by rw [s];rfl
  have y:(p.protos.map Fn.row).length=p.protos.length:=List.length_map ..
  have E:=eq_true (B3 Fn.row 11 Fn.row_len p.protos)
  have o: ∀(k:Nat) q,p.protos[k]? =some q→(p.protos.map Fn.row)[k]? =some q.row:=fun k q K=>by rw [List.getElem?_map,K];rfl
  clear s
  generalize p.row=pr at*
  generalize p.protos.map Fn.row=es at*
  simp -implicitDefEqProofs only [go_sem,A4,h1,h2,d1]
  refine V5.use (rest:= [_]) g rfl (fun e c z i=>by rw [List.mem_singleton.1 c];exact W z i) ?_
  rintro r C A hn (⟨rfl,D⟩|⟨rfl,T⟩)
  ·simp -implicitDefEqProofs only [go_sem,h8]
   refine Run.roundsK (fun(x:Nat×A2×Nat)=>⟨[(14,.int .i64 x.1),(13,.int .i64 p.protos.length),(12,.isl es),(2,.ptr (100*10000+2) n 0 0),(1,.yld nm st)],((100*10000+2),n,.rows 11 [pr])::x.2.1,x.2.2⟩)
    (fun x=>x.1≤p.protos.length∧J (a++ [p]++Fn.eachs (p.protos.take x.1)) x.2.1 x.2.2) (fun x=>p.protos.length-x.1) (0,C,A) ?_ ⟨Nat.zero_le _,by simpa [Fn.eachs]using D⟩ ?_
   ·refine C1.wk ⟨F3.1 Qz,fun e c=> ?_,Nat.le_refl _⟩
    simpa using c
   rintro⟨k,h3,U⟩ ⟨K,f⟩ ih
   simp only at K f ih⊢
   obtain⟨Z,Y⟩:=v.apJ _ _ _ f
   have c1:=Z.del
   have c2:=Y.del
   refine Run.unf A7l (Run.go 100 ?_)
   by_cases t:k<p.protos.length
   ·have q0:((k:Int)<(p.protos.length:Int))=True:=Ji
    have q1:((0:Int)≤(k:Int))=True:=Ji
    obtain⟨q,B⟩: ∃q,p.protos[k]? =some q:=⟨p.protos[k],by simp [t]⟩
    have u:q∈p.protos:=List.mem_of_getElem? B
    have M:=o k q B
    have R:=q.row_len
    have O:q.row.take 11=q.row:=List.take_of_length_le zd
    have L:((k:Int)+1)=((k+1:Nat):Int):=by omega
    have m:p.protos=p.protos.take k++q::p.protos.drop (k+1):=by
     have:=List.getElem_of_getElem? B
     obtain⟨hk',e⟩:=this
     rw [←e,List.getElem_cons_drop];simp
    have N:w=(a++ [p]++Fn.eachs (p.protos.take k))++q.each++(Fn.eachs (p.protos.drop (k+1))++b):=by
     have e1:Fn.eachs p.protos=Fn.eachs (p.protos.take k)++(q.each++Fn.eachs (p.protos.drop (k+1))):=by
      conv=>lhs;rw [m]
      rw [Fn.eachs_append,Fn.eachs]
     rw [G,Fn.each_eq p,e1];simp
    have l:=S q u (j.child u) _ _ h3 (U+1) N (v.up _ _ _ _ (Nat.le_succ U) f)
    have P:Fn.eachs (p.protos.take (k+1))=Fn.eachs (p.protos.take k)++q.each:=by
     rw [List.take_add_one,B];simp [Fn.eachs_append,Fn.eachs]
    generalize q.row=qr at*
    simp -implicitDefEqProofs only [go_sem,q0,q1,y,E,M,Option.some.injEq,forall_eq',R,O,List.append_nil,c2]
    refine⟨t,?_⟩
    refine A0.use (rest:= [_,_]) l rfl (fun e c z i=> ?_) ?_
    ·simp only [List.mem_cons,List.not_mem_nil,or_false]at c
     rcases c with rfl|rfl
     ·exact Y z i
     ·exact Z z i
    rintro r h4 n4 hn4 (⟨rfl,H⟩|⟨rfl,d,q',rest,F,T⟩)
    ·refine QL ?_
     refine⟨by omega,?_⟩
     refine ih _ (k+1,h4,n4) ⟨by simp only;omega,by simp only [P];rw [←List.append_assoc];exact H⟩ zg (C1.wk ⟨F3.1 QA,fun e c=>List.mem_cons_of_mem _ c,Nat.le_refl _⟩)
    ·refine QL ?_
     subst I
     refine .to (Or.inr ⟨rfl,d,q',rest,F,T⟩) (C1.wk ⟨fun p j=> ?_,fun e c=>List.mem_cons_of_mem _ (List.mem_cons_of_mem _ c),Nat.le_refl _⟩)
     rw [List.mem_singleton.1 j];rfl
   ·have e:k=p.protos.length:=by omega
    subst e
    refine QN ?_
    subst I
    rw [List.take_length]at f
    refine .to (Or.inl ⟨rfl,by rw [Fn.each_eq];simpa using f⟩) (C1.wk ⟨fun p j=> ?_,fun e c=>List.mem_cons_of_mem _ c,Nat.le_refl _⟩)
    rw [List.mem_singleton.1 j];rfl
  ·refine QL ?_
   subst I
   refine .to (Or.inr ⟨rfl,a,p,Fn.eachs p.protos++b,by rw [G,Fn.each_eq];simp,T⟩) (C1.wk ⟨fun p j=> ?_,fun e c=>List.mem_cons_of_mem _ c,Nat.le_refl _⟩)
   rw [List.mem_singleton.1 j];rfl
theorem C3m{nm st b sb:Nat}{J X:List Fn→A2→Nat→Prop}(p:Fn)(j:p.bd)(v:Rnds nm st p.each J X)(h:A2)(n:Nat)(w:A2.get h b sb=some (.rows 11 [p.row]))(k:J [] h n):
  A0 Tryz.prog 99 [.yld nm st,.ptr b sb 0 0] h n fun r g d=>J p.each g d∨ ∃a q c,p.each=a++q::c∧X (a++ [q]) g d:=by
 obtain⟨u,t⟩:=B4 p
 have o:=C0S p j
 have s:=Fn.row_sub C7 p
 have m:=D0i v p j [] [] h n zf k
 generalize p.row=y at*
 refine A0.enterK A9p Jk fun Q i=>Run.go 100 ?_
 simp -implicitDefEqProofs only [go_sem,A4,w,u,t]
 refine A0.pureF o zP ?_
 refine QL ?_
 refine m.mono ?_
 rintro r g d (⟨rfl,e⟩|⟨rfl,a,l,c,f,x⟩)
 ·refine QL ?_
  subst i
  exact .is (.inl (by simpa using e))
 ·refine QL ?_
  subst i
  exact .is (.inr ⟨a,l,c,f,x⟩)
theorem B4C{α:Type}(l:List α):l= []∨ ∃r x,l=r++ [x]:=by
 rcases List.eq_nil_or_concat l with h|⟨r,x,h⟩
 ·exact .inl h
 ·exact .inr ⟨r,x,by simpa using h⟩
theorem D0c{R:List (List V)}{l:List Fn}{m k:Nat}{q:Fn}(h:R.take m=l.map Fn.row)(a:l[k]? =some q)(c:l.length=m):R[k]? =some q.row:=by
 have b:=(List.getElem?_eq_some_iff.1 a).1
 have:(R.take m)[k]? =some q.row:=by rw [h,List.getElem?_map,a];rfl
 rwa [List.getElem?_take_of_lt zd]at this
theorem C7F{R:List (List V)}{l:List Fn}{q:Fn}{m:Nat}(h:R.take (m+1)=(l++ [q]).map Fn.row)(a:l.length=m):R.take m=l.map Fn.row:=by
 have:=congrArg (List.take m) h
 rw [List.take_take,Nat.min_eq_left zd]at this
 rw [this]
 simp [←a]
theorem B1P(p:Fn)(hp:p.bd)(hc:p.each.length≤1000000):Pure Tryz.prog 20 [.agg p.row] (.isl (p.each.map Fn.row)):=by
 obtain⟨h1,h2⟩:=B4 p
 have y:=fun d h=>f9 (d:=d) (h:=h) fun φ=>Fn.rows_sub φ p.each
 refine Pure.of 1 (A0.enter A2M Jk (Run.go 100 ?_))
 have H: [p.row]= [p].map Fn.row:=rfl
 generalize hpr':p.row=pr at*
 refine QV ?_
 refine Run.roundsK (fun(x:List Fn×List (List V)×List Fn×Nat×Nat×Nat)=>⟨[(4,.sl (20*10000+42) x.2.2.2.1 0 x.1.length),(3,.sl (20*10000+26) x.2.2.2.2.1 0 x.2.2.1.length)],
   [((20*10000+42),x.2.2.2.1,.rows 11 x.2.1),((20*10000+26),x.2.2.2.2.1,.rows 11 (x.2.2.1.map Fn.row))],x.2.2.2.2.2⟩)
  (fun x=>x.2.1.take x.1.length=x.1.map Fn.row∧x.1.length≤x.2.1.length∧x.2.2.1++Fn.eachs x.1.reverse=p.each) (fun x=>(Fn.eachs x.1.reverse).length) ([p],[pr],[],1,2,3) ?_ ⟨H,Nat.le_refl _,by simp [Fn.eachs]⟩ ?_
 ·refine .trans (.fresh (20*10000+26) 11 _ _ _) (.turn (fun b=>if b=(20*10000+9)then(20*10000+42)else b) ⟨.sl,.nils,trivial⟩ (.at 1 rfl rfl (.refl _) (.at 0 rfl rfl (.refl _) trivial)))
 rintro⟨t,R,o,st,so,n⟩ ⟨E,u,l⟩ Y
 simp only at E u l Y⊢
 have z:(o.map Fn.row).length=o.length:=List.length_map ..
 have i:o.length+(Fn.eachs t.reverse).length=p.each.length:=by rw [←l];simp
 have s:=Fn.eachs_len t.reverse
 rw [List.length_reverse]at s
 refine Run.unf A0D (Run.go 100 ?_)
 rcases B4C t with rfl|⟨t,q,rfl⟩
 ·have G:o=p.each:=by rw [←l];simp [Fn.eachs]
  subst G
  have e1:(p.each.map Fn.row).take p.each.length=p.each.map Fn.row:=List.take_of_length_le zd
  generalize p.each.map Fn.row=es at*
  simp -implicitDefEqProofs only [go_sem,List.length_nil,z,e1]
  exact y _ _
 ·have A:(t++ [q]).length=t.length+1:=by simp
  rw [A]at E u s⊢
  have q0:((0:Int)<((t.length+1:Nat):Int))=True:=Ji
  have q1:((t.length+1:Nat):Int)-1=(t.length:Int):=by omega
  have q2:((0:Int)≤(t.length:Int))=True:=Ji
  have q3:((t.length:Int)<((t.length+1:Nat):Int))=True:=Ji
  have q4:((t.length:Int)≤((t.length+1:Nat):Int))=True:=Ji
  have hq:=D0c (k:=t.length) (q:=q) E zf A
  have O:=C7F E rfl
  have N:q∈p.each:=by rw [←l];exact List.mem_append.2 (.inr (by rw [List.reverse_append];simp only [List.reverse_cons,List.reverse_nil,List.nil_append,List.cons_append];rw [Fn.eachs];exact List.mem_append.2 (.inl q.self_mem)))
  have hqp:=(hp q N).protos
  obtain⟨g1,g2⟩:=B4 q
  have g8:q.row[8]? =some (.isl (q.protos.map Fn.row)):=by rw [q.row_eq];rfl
  have D:(q.protos.map Fn.row).length=q.protos.length:=List.length_map ..
  have J:=eq_true (B3 Fn.row 11 Fn.row_len q.protos)
  have W:(o.length+1≤137438953472)=True:=Ji
  have v:(o.map Fn.row).take o.length=o.map Fn.row:=List.take_of_length_le zd
  have q5:t.length<R.length:=by omega
  generalize S:q.row=F at*
  generalize T:q.protos.map Fn.row=es at*
  generalize U:o.map Fn.row=OR at*
  simp -implicitDefEqProofs only [go_sem,q0,q1,q2,q3,q4,q5,hq,g1,g2,g8,z,D,W,v,Option.some.injEq,forall_eq',List.append_nil]
  refine⟨by omega,by omega,?_⟩
  have hz0:((t.length:Int)-0).toNat=t.length:=by omega
  rw [hz0]
  have hpl2:q.protos.length≤(Fn.eachs q.protos).length:=Fn.eachs_len _
  have Z:Fn.eachs (t++ [q]).reverse=q::(Fn.eachs q.protos++Fn.eachs t.reverse):=by rw [List.reverse_append];simp only [List.reverse_cons,List.reverse_nil,List.nil_append,List.cons_append];rw [Fn.eachs,Fn.each_eq];rfl
  rw [Z]at l i Y
  have K:=Fn.eachs_len t.reverse
  rw [List.length_reverse]at K
  simp only [List.length_cons,List.length_append]at i
  refine Run.roundsK (fun(x:Nat×List (List V)×Nat×Nat)=>⟨[(7,.int .i64 ((q.protos.length:Int)-1-x.1)),(6,.ptr (20*10000+6) n 0 0),(4,.sl (20*10000+42) x.2.2.1 0 (t.length+x.1)),(3,.sl (20*10000+26) (n+1) 0 (o.length+1))],
    [((20*10000+42),x.2.2.1,.rows 11 x.2.1),((20*10000+26),n+1,.rows 11 (OR++ [F])),((20*10000+6),n,.rows 11 [F])],x.2.2.2⟩)
   (fun x=>x.1≤q.protos.length∧x.2.1.take (t.length+x.1)=(t++q.protos.reverse.take x.1).map Fn.row∧t.length+x.1≤x.2.1.length) (fun x=>q.protos.length-x.1) (0,R,st,n+1+1) ?_ ⟨Nat.zero_le _,by simpa using O,by simp only;omega⟩ ?_
  ·exact C1.wk Qi
  rintro⟨k,R',M,m⟩ ⟨hk,f,a⟩ C
  simp only at hk f a C⊢
  refine Run.unf T4 (Run.go 100 ?_)
  by_cases L:k<q.protos.length
  ·have Q:((0:Int)≤(q.protos.length:Int)-1-(k:Int))=True:=Ji
   have z1:((q.protos.length:Int)-1-(k:Int)<(q.protos.length:Int))=True:=Ji
   have z2:((q.protos.length:Int)-1-(k:Int)).toNat=q.protos.length-1-k:=by omega
   obtain⟨r,hr⟩: ∃r,q.protos[q.protos.length-1-k]? =some r:=⟨q.protos[q.protos.length-1-k]' zd,by simp⟩
   have X:q.protos.reverse[k]? =some r:=by rw [List.getElem?_reverse L];exact hr
   have c:es[q.protos.length-1-k]? =some r.row:=by rw [←T,List.getElem?_map,hr];rfl
   obtain⟨f1,f2⟩:=B4 r
   have B:(t.length+k+1≤137438953472)=True:=Ji
   have z3:t.length+k≤R'.length:=a
   have w:(t++q.protos.reverse.take (k+1)).map Fn.row=R'.take (t.length+k)++ [r.row]:=by
    rw [f,List.take_add_one,X];simp
   have g:(R'.take (t.length+k)).length=t.length+k:=by rw [List.length_take];omega
   generalize r.row=rr at*
   simp -implicitDefEqProofs only [go_sem,Q,z1,z2,D,J,c,g8,f1,f2,B,z3,Option.some.injEq,forall_eq']
   refine⟨by omega,by omega,?_⟩
   have z4:(q.protos.length:Int)-1-((k+1:Nat):Int)=(q.protos.length:Int)-1-k-1:=by omega
   refine C _ (k+1,R'.take (t.length+k)++ [rr],m,m+1) ⟨by simp only;omega,?_,?_⟩ zg (C1.wk (by simp -implicitDefEqProofs only [go_sem,z4,Nat.add_assoc]))
   ·simp only [w]
    exact List.take_of_length_le (by simp only [List.length_append,g,List.length_singleton];omega)
   ·simp only [List.length_append,g,List.length_singleton];omega
  ·have e:k=q.protos.length:=by omega
   subst e
   have Q:((0:Int)≤(q.protos.length:Int)-1-(q.protos.length:Int))=False:=Jj
   simp -implicitDefEqProofs only [go_sem,Q]
   have j:(t++q.protos.reverse).length=t.length+q.protos.length:=by simp
   have I:(o++ [q]).length=o.length+1:=by simp
   have P:(o++ [q]).map Fn.row=OR++ [F]:=by rw [List.map_append,U,←S];rfl
   have c:(t++q.protos.reverse).reverse=q.protos++t.reverse:=by simp
   rw [show q.protos.reverse.take q.protos.length=q.protos.reverse from List.take_of_length_le zf]at f
   refine Y _ (t++q.protos.reverse,R',o++ [q],M,n+1,m) ⟨by simp only [j];exact f,by simp only [j];exact a,?_⟩ ?_ (C1.wk ?_)
   ·simp only [c,Fn.eachs_append]
    rw [←l];simp
   ·simp only [c,Fn.eachs_append,List.length_append,List.length_cons];omega
   ·simp only [j,I,P]
    exact ze
def parts(q:Fn):Nat:=q.code.length+q.lines.length+q.consts.length+q.ups.length+q.vars.length
structure SmallP(p:Fn):Prop where
 count:p.each.length≤40
 parts: ∀q∈p.each,parts q≤400∧q.protos.length≤40
theorem SmallP.bd{p:Fn}(h:SmallP p):p.bd:=fun q a=>by
 have b:=(h.parts q a).1
 have c:=(h.parts q a).2
 unfold Go.Proofs.YtcaaenddpjepiaaGreatDoor.parts at b
 exact⟨by omega,by omega,by omega,by omega,by omega,by omega⟩
def J5:List Int→Int
 | []=>0
 |x::r=>if x=0 then J5 r else x
theorem A2y: ∀{l:List Int},(∀x∈l,x=0)→J5 l=0
 | [],_=>rfl
 |x::r,h=>by rw [J5,if_pos (h x List.mem_cons_self)];exact A2y fun y a=>h y (List.mem_cons_of_mem _ a)
theorem B1w: ∀{l:List Int} {x:Int} {r:List Int},(∀y∈l,y=0)→x≠0→J5 (l++x::r)=x
 | [],x,r,_,hx=>by simp [J5,hx]
 |y::l,x,r,h,hx=>by rw [List.cons_append,J5,if_pos (h y List.mem_cons_self)];exact B1w (fun z a=>h z (List.mem_cons_of_mem _ a)) hx
def B1r(d:Nat)(l:List Int):Int:=if 64<d then 3 else J5 l
theorem C7Y(p:Fn)(P:p.bd)(d:Nat)(G:Pure Tryz.prog 76 [.agg p.row] (.int .i64 d))(e:Fn→Int)
  (M: ∀q∈p.each,Pure Tryz.prog 78 [.agg q.row] (.int .i64 (e q))):Pure Tryz.prog 56 [.agg p.row] (.int .i64 (B1r d (p.each.map e))):=by
 obtain⟨E,D⟩:=B4 p
 have o:=Fn.row_sub C7 p
 have t:=fun n=>C6e p n
 have s:=fun nm st b sb J X N h n R H=>C3m (nm:=nm) (st:=st) (b:=b) (sb:=sb) (J:=J) (X:=X) p P N h n R H
 generalize F:p.row=g at*
 refine Pure.of 0 (A0.enter B0l Jk (Run.go 100 ?_))
 simp -implicitDefEqProofs only [go_sem,A4,E,D]
 refine A0.pureF G zU ?_
 by_cases B:64<d
 ·have y:((64:Int)<(d:Int))=True:=Ji
  have z:B1r d (p.each.map e)=3:=if_pos B
  simp -implicitDefEqProofs only [go_sem,y,z]
 have y:((64:Int)<(d:Int))=False:=Jj
 have z:B1r d (p.each.map e)=J5 (p.each.map e):=if_neg B
 rw [z]
 simp -implicitDefEqProofs only [go_sem,y,E,D]
 refine A0.at [] [0,1] (t 2) rfl rfl ?_
 rintro r h' n' U ⟨rfl,rfl,rfl⟩
 refine QL ?_
 refine⟨by kernel_rfl,?_⟩
 generalize i: [(9,V.fn 99 [V.ptr (77*10000+1) 2 0 0]),(8,.agg g),(7,.bool false),(6,.int .i64 d),(5,.agg g),(2,.ptr (56*10000+2) 1 0 0),(1,.ptr (56*10000+1) 0 0 0),(0,.agg g)]=S
 refine A0.pre (xs':= [.yld (56*10000+9010) 3,.ptr (77*10000+1) 2 0 0]) (h':= [((56*10000+9010),3,.loop 16 S [10] (A2u Tryz.prog 16 A1t A1u) .ready none),((56*10000+2),1,.rows 1 [[.int .i64 0]]),((77*10000+1),2,.rows 11 [g]),((56*10000+1),0,.rows 11 [g])]) (n':=4)
  (.turn id ⟨.refl _,.refl _,trivial⟩ (.at 0 rfl rfl (.refl _) (.at 2 rfl rfl (.refl _) (.at 1 rfl rfl (.refl _) (.at 3 rfl rfl (.refl _) trivial))))) rfl ?_
 refine(s (56*10000+9010) 3 (77*10000+1) 2 (fun a h n=>(∀x∈a.map e,x=0)∧h= [((56*10000+9010),3,.loop 16 S [10] (A2u Tryz.prog 16 A1t A1u) .ready none),((56*10000+2),1,.rows 1 [[.int .i64 0]]),((77*10000+1),2,.rows 11 [g]),((56*10000+1),0,.rows 11 [g])])
  (fun a h n=> ∃f q,a=f++ [q]∧(∀x∈f.map e,x=0)∧e q≠0∧h= [((56*10000+9010),3,.loop 16 S [10] (A2u Tryz.prog 16 A1t A1u) .done (some .ret)),((56*10000+2),1,.rows 1 [[.int .i64 (e q)]]),((77*10000+1),2,.rows 11 [g]),((56*10000+1),0,.rows 11 [g])]) ⟨?_,fun _ _ _ _ _ h=>h,?_,?_⟩ _ 4 ze ⟨by simp,rfl⟩).mono ?_
 ·rintro a q k h n v ⟨j,rfl⟩
  have w:q∈p.each:=by rw [v];simp
  have L:=M q w
  obtain⟨K,O⟩:=B4 q
  have u:=Fn.row_sub C7 q
  generalize q.row=T at*
  refine V5.enterU A5m A1A rfl rfl fun Q C=>Run.go 100 ?_
  subst i
  simp -implicitDefEqProofs only [go_sem,K,O]
  refine A0.pureF L Qj ?_
  by_cases c:e q=0
  ·refine QO ?_
   subst C
   refine .to (n2:=n+1) (.inl ⟨rfl,?_,rfl⟩) (.turn id ⟨.refl _,trivial⟩ (.at 0 rfl rfl (.refl _) (.at 2 rfl rfl (.refl _) (.at 3 rfl rfl (.refl _) (.at 4 rfl rfl (.refl _) trivial)))))
   intro x l
   simp only [List.map_append,List.mem_append,List.map_cons,List.map_nil,List.mem_singleton]at l
   rcases l with l|rfl
   ·exact j x l
   ·exact c
  ·refine QO ?_
   subst C
   refine .to (n2:=n+1) (.inr ⟨rfl,a,q,rfl,j,c,rfl⟩) (.turn id ⟨.refl _,trivial⟩ (.at 0 rfl rfl (.refl _) (.at 1 rfl rfl (.refl _) (.at 3 rfl rfl (.refl _) (.at 4 rfl rfl (.refl _) trivial)))))
 ·rintro a h n ⟨_,rfl⟩
  exact⟨.of rfl,.of rfl⟩
 ·rintro a h n ⟨_,_,_,_,_,rfl⟩
  exact⟨.of rfl,.of rfl⟩
 ·rintro r h' n' (⟨j,rfl⟩|⟨a,q,k,v,f,I,A,j,c,rfl⟩)
  ·subst i
   have:=A2y j
   exact zQ
  ·subst i
   obtain⟨rfl,m⟩:=List.append_inj' A rfl
   obtain rfl:q=I:=by simpa using m
   have:J5 (p.each.map e)=e q:=by rw [v,List.map_append,List.map_cons];exact B1w j c
   exact zQ
end
end Go.Proofs.YtcaaenddpjepiaaGreatDoor
