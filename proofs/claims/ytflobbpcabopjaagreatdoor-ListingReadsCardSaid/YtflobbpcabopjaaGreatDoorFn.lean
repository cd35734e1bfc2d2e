/-
 Functions (api.Proto) as data, whole; their parts, in preorder. No condition.
-/
import Derived.Test.YtflobbpcabopjaaGreatDoorTxt0
import Derived.Test.YtflobbpcabopjaaGreatDoorArg
import Derived.Test.YtflobbpcabopjaaGreatDoorChecked
set_option linter.unusedVariables false set_option maxRecDepth 100000
namespace Go.Proofs.YtflobbpcabopjaaGreatDoor
open Go.Abs
structure Kst where
 kind:Int
 p:Int
 q:Int
 str:List UInt8
 ref:Int
 deriving DecidableEq,Inhabited
structure Vr where
 name:List UInt8
 reg:Int
 lo:Int
 hi:Int
 attr:Int
 deriving DecidableEq,Inhabited
structure Upv where
 name:List UInt8
 loc:Bool
 idx:Int
 deriving DecidableEq,Inhabited
structure Fn where
 name:List UInt8
 line:Int
 params:Int
 vararg:Bool
 regs:Int
 code:List Ins
 lines:List Int
 consts:List Kst
 protos:List Fn
 ups:List Upv
 vars:List Vr
 deriving Inhabited
def Kst.row(v:Kst):List V:= [.int .i64 v.kind,.int .i64 v.p,.int .i64 v.q,.str v.str,.int .i64 v.ref]
def Vr.row(v:Vr):List V:= [.str v.name,.int .i64 v.reg,.int .i64 v.lo,.int .i64 v.hi,.int .i64 v.attr]
def Upv.row(u:Upv):List V:= [.str u.name,.bool u.loc,.int .i64 u.idx]
def E9(z:Int):List V:= [.int .i64 z]
mutual
def Fn.row:Fn→List V
 |⟨name,line,params,vararg,regs,code,lines,consts,protos,ups,vars⟩=>
  [.str name,.int .i64 line,.int .i64 params,.bool vararg,.int .i64 regs,.isl (code.map Ins.row),.isl (lines.map E9),.isl (consts.map Kst.row),.isl (Fn.rows protos),.isl (ups.map Upv.row),.isl (vars.map Vr.row)]
def Fn.rows:List Fn→List (List V)
 | []=> []
 |p::r=>Fn.row p::Fn.rows r
end
theorem Fn.rows_map: ∀l:List Fn,Fn.rows l=l.map Fn.row
 | []=>rfl
 |p::r=>by rw [Fn.rows,Fn.rows_map r];rfl
theorem Fn.row_eq(p:Fn):p.row= [.str p.name,.int .i64 p.line,.int .i64 p.params,.bool p.vararg,.int .i64 p.regs,.isl (p.code.map Ins.row),.isl (p.lines.map E9),.isl (p.consts.map Kst.row),.isl (p.protos.map Fn.row),.isl (p.ups.map Upv.row),.isl (p.vars.map Vr.row)]:=by
 obtain⟨a,b,c,d,e,f,g,h,i,j,k⟩:=p
 rw [Fn.row,Fn.rows_map]
theorem Fn.row_len(p:Fn):p.row.length=11:=by rw [Fn.row_eq];rfl
mutual
theorem Fn.ind{C:Fn→Prop}(h: ∀p,(∀q∈p.protos,C q)→C p): ∀p:Fn,C p
 |⟨a,b,c,d,e,f,g,i,l,j,k⟩=>h _ (Fn.inds h l)
theorem Fn.inds{C:Fn→Prop}(h: ∀p,(∀q∈p.protos,C q)→C p): ∀l:List Fn,∀q∈l,C q
 | []=>fun q hq=>by cases hq
 |p::r=>fun q hq=>(List.mem_cons.1 hq).elim (fun e=>e ▸ Fn.ind h p) (Fn.inds h r q)
end
mutual
def Fn.wf:Fn→Prop
 |⟨name,_,_,_,_,code,lines,consts,protos,ups,vars⟩=>name.length≤reachBytes∧code.length≤reachBytes∧lines.length≤reachBytes∧consts.length≤reachBytes∧protos.length≤reachBytes∧ups.length≤reachBytes∧vars.length≤reachBytes∧Fn.wfs protos
def Fn.wfs:List Fn→Prop
 | []=>True
 |p::r=>Fn.wf p∧Fn.wfs r
end
theorem Fn.wfs_mem: ∀{l:List Fn},Fn.wfs l↔ ∀q∈l,Fn.wf q
 | []=>by simp [Fn.wfs]
 |p::r=>by rw [Fn.wfs,Fn.wfs_mem,List.forall_mem_cons]
theorem Fn.wf_iff(p:Fn):p.wf↔p.name.length≤reachBytes∧p.code.length≤reachBytes∧p.lines.length≤reachBytes∧p.consts.length≤reachBytes∧p.protos.length≤reachBytes∧p.ups.length≤reachBytes∧p.vars.length≤reachBytes∧ ∀q∈p.protos,q.wf:=by
 obtain⟨a,b,c,d,e,f,g,h,i,j,k⟩:=p
 rw [Fn.wf,Fn.wfs_mem]
mutual
def Fn.each:Fn→List Fn
 |⟨a,b,c,d,e,f,g,h,l,j,k⟩=>⟨a,b,c,d,e,f,g,h,l,j,k⟩::Fn.eachs l
def Fn.eachs:List Fn→List Fn
 | []=> []
 |p::r=>Fn.each p++Fn.eachs r
end
theorem Fn.each_eq(p:Fn):p.each=p::Fn.eachs p.protos:=by
 obtain⟨a,b,c,d,e,f,g,h,i,j,k⟩:=p
 rw [Fn.each]
theorem Fn.eachs_append: ∀l m:List Fn,Fn.eachs (l++m)=Fn.eachs l++Fn.eachs m
 | [],_=>rfl
 |p::r,m=>by rw [List.cons_append,Fn.eachs,Fn.eachs,Fn.eachs_append r m,List.append_assoc]
theorem Fn.eachs_one(p:Fn):Fn.eachs [p]=p.each:=by rw [Fn.eachs,Fn.eachs,List.append_nil]
theorem Fn.mem_eachs{q:Fn}: ∀{l:List Fn},q∈Fn.eachs l↔ ∃p∈l,q∈p.each
 | []=>by simp [Fn.eachs]
 |p::r=>by simp [Fn.eachs,Fn.mem_eachs (l:=r)]
theorem Fn.self_mem(p:Fn):p∈p.each:=by rw [Fn.each_eq];exact List.mem_cons_self
theorem Fn.each_pos(p:Fn):1≤p.each.length:=by rw [Fn.each_eq];simp
theorem Fn.eachs_len: ∀l:List Fn,l.length≤(Fn.eachs l).length
 | []=>Nat.le_refl _
 |p::r=>by
  have:=Fn.each_pos p
  have:=Fn.eachs_len r
  rw [Fn.eachs];simp;omega
theorem Fn.each_trans(p:Fn): ∀q∈p.each,∀x∈q.each,x∈p.each:=by
 induction p using Fn.ind with
 | h p ih=>
  intro q hq x hx
  rw [Fn.each_eq]at hq
  rcases List.mem_cons.1 hq with rfl|hq
  ·exact hx
  ·obtain⟨r,hr,hq⟩:=Fn.mem_eachs.1 hq
   rw [Fn.each_eq]
   exact List.mem_cons_of_mem _ (Fn.mem_eachs.2 ⟨r,hr,ih r hr q hq x hx⟩)
theorem Fn.child_mem{p q x:Fn}(hq:q∈p.each)(hx:x∈q.protos):x∈p.each:=
 Fn.each_trans p q hq x (by rw [Fn.each_eq];exact List.mem_cons_of_mem _ (Fn.mem_eachs.2 ⟨x,hx,Fn.self_mem x⟩))
structure Fn.Le(p:Fn):Prop where
 code:p.code.length≤3518437208780
 lines:p.lines.length≤17592186043904
 consts:p.consts.length≤2932031007317
 protos:p.protos.length≤733007751829
 ups:p.ups.length≤4398046510976
 vars:p.vars.length≤2932031007317
def Fn.bd(p:Fn):Prop:= ∀q∈p.each,q.Le
theorem Fn.bd.self{p:Fn}(h:p.bd):p.Le:=h p p.self_mem
theorem Fn.bd.child{p q:Fn}(h:p.bd)(hq:q∈p.protos):q.bd:=fun x hx=>h x (Fn.each_trans p q (Fn.child_mem p.self_mem hq) x hx)
theorem Fn.bd.within{p q:Fn}(h:p.bd)(hq:q∈p.each):q.bd:=fun x hx=>h x (Fn.each_trans p q hq x hx)
mutual
def Fn.depth:Fn→Nat
 |⟨_,_,_,_,_,_,_,_,l,_,_⟩=>Fn.depths l+1
def Fn.depths:List Fn→Nat
 | []=>0
 |p::r=>max (Fn.depth p) (Fn.depths r)
end
theorem Fn.depth_eq(p:Fn):p.depth=Fn.depths p.protos+1:=by
 obtain⟨a,b,c,d,e,f,g,h,i,j,k⟩:=p
 rw [Fn.depth]
theorem C8{α:Type}(φ:Nat→Nat→Nat→Nat→V)(f:α→List V)(l:List α)(h: ∀x∈l,(f x).map (V.sub φ)=f x):(l.map f).map (fun r=>r.map (V.sub φ))=l.map f:=by
 rw [List.map_map]
 exact List.map_congr_left h
theorem Ins.row_sub(φ:Nat→Nat→Nat→Nat→V)(i:Ins):i.row.map (V.sub φ)=i.row:=by simp [Ins.row,V.sub]
theorem Kst.row_sub(φ:Nat→Nat→Nat→Nat→V)(i:Kst):i.row.map (V.sub φ)=i.row:=by simp [Kst.row,V.sub]
theorem Vr.row_sub(φ:Nat→Nat→Nat→Nat→V)(i:Vr):i.row.map (V.sub φ)=i.row:=by simp [Vr.row,V.sub]
theorem Upv.row_sub(φ:Nat→Nat→Nat→Nat→V)(i:Upv):i.row.map (V.sub φ)=i.row:=by simp [Upv.row,V.sub]
theorem B2b(φ:Nat→Nat→Nat→Nat→V)(i:Int):(E9 i).map (V.sub φ)=E9 i:=by simp [E9,V.sub]
theorem Fn.row_sub(φ:Nat→Nat→Nat→Nat→V)(p:Fn):p.row.map (V.sub φ)=p.row:=by
 induction p using Fn.ind with
 |h p ih=>
  rw [Fn.row_eq]
  simp only [List.map_cons,List.map_nil,V.sub,A0g]
  rw [C8 φ _ _ fun x _=>Ins.row_sub φ x,C8 φ _ _ fun x _=>B2b φ x,C8 φ _ _ fun x _=>Kst.row_sub φ x,C8 φ _ _ ih,C8 φ _ _ fun x _=>Upv.row_sub φ x,C8 φ _ _ fun x _=>Vr.row_sub φ x]
theorem Fn.rows_sub(φ:Nat→Nat→Nat→Nat→V)(l:List Fn):(l.map Fn.row).map (fun r=>r.map (V.sub φ))=l.map Fn.row:=C8 φ _ _ fun x _=>Fn.row_sub φ x
theorem C8U{row:List V}(h:A7T Tryz.prog 72 row): ∃i:Ins,row=i.row:=by
 have h:=h.fields Tryz.underlying72
 obtain⟨a1,b1,rfl,h1,a2,b2,rfl,h2,a3,b3,rfl,h3,a4,b4,rfl,h4,a5,b5,rfl,h5,rfl⟩:=h
 obtain⟨n1,rfl,_⟩:=h1.int_inv Tryz.underlying3
 exact Xz
theorem D3J{row:List V}(h:A7T Tryz.prog 81 row): ∃u:Upv,row=u.row:=by
 have h:=h.fields Tryz.underlying81
 obtain⟨a1,b1,rfl,h1,a2,b2,rfl,h2,a3,b3,rfl,h3,rfl⟩:=h
 obtain⟨n1,rfl,_⟩:=h1.str_inv Tryz.underlying9
 obtain⟨n2,rfl⟩:=h2.bool_inv Tryz.underlying4
 obtain⟨n3,rfl,_⟩:=h3.int_inv Tryz.underlying3
 exact⟨⟨n1,n2,n3⟩,rfl⟩
theorem D3N{row:List V}(h:A7T Tryz.prog 84 row): ∃u:Vr,row=u.row:=by
 have h:=h.fields Tryz.underlying84
 obtain⟨a1,b1,rfl,h1,a2,b2,rfl,h2,a3,b3,rfl,h3,a4,b4,rfl,h4,a5,b5,rfl,h5,rfl⟩:=h
 obtain⟨n1,rfl,_⟩:=h1.str_inv Tryz.underlying9
 exact Xz
theorem C8Y{row:List V}(h:A7T Tryz.prog 78 row): ∃u:Kst,row=u.row:=by
 have h:=h.fields Tryz.underlying78
 obtain⟨a1,b1,rfl,h1,a2,b2,rfl,h2,a3,b3,rfl,h3,a4,b4,rfl,h4,rfl⟩:=h
 have h2:=h2.fields Tryz.underlying76
 obtain⟨c1,d1,rfl,g1,c2,d2,rfl,g2,rfl⟩:=h2
 obtain⟨n1,rfl,_⟩:=h1.int_inv Tryz.underlying3
 obtain⟨n2,rfl,_⟩:=g1.int_inv Tryz.underlying3
 obtain⟨n3,rfl,_⟩:=g2.int_inv Tryz.underlying3
 obtain⟨n4,rfl,_⟩:=h3.str_inv Tryz.underlying9
 obtain⟨n5,rfl,_⟩:=h4.int_inv Tryz.underlying3
 exact⟨⟨n1,n2,n3,n4,n5⟩,rfl⟩
theorem B2A{β:Type}{f:β→List V}{es:List (List V)}(h: ∀row∈es,∃z,row=f z): ∃zs:List β,es=zs.map f:=by
 obtain⟨zs,h1,_⟩:=rows_map (f:=f) (p:=fun _=>True) (es:=es) fun row hr=>by obtain⟨z,hz⟩:=h row hr;exact⟨z,hz,trivial⟩
 exact⟨zs,h1⟩
theorem D5O{t:TypeId}{row:List V}(h:A7T Tryz.prog t row):(t=29→ ∃p:Fn,row=p.row∧p.wf∧p.bd)∧(t=25→ ∃ps:List Fn,row= [.isl (ps.map Fn.row)]∧ps.length≤reachBytes∧ps.length*192≤reachBytes∧ ∀p∈ps,p.wf∧p.bd):=by
 induction h with
 |bool h b=>exact⟨fun e=> zM,fun e=> zN⟩
 |int h n hn=>exact⟨fun e=> zM,fun e=> zN⟩
 |str h s hs=>exact⟨fun e=> zM,fun e=> zN⟩
 |slice h es hl hb he ih=>
  refine⟨fun e=> zM,fun e=> ?_⟩
  subst e
  rw [Tryz.underlying25]at h
  cases h
  obtain⟨ps,rfl,hp⟩:=rows_map (f:=Fn.row) (p:=fun p=>p.wf∧p.bd) fun row hr=>(ih row hr).1 rfl
  have h8:192≤Tryz.prog.bytesOf 29:=Nat.le_of_ble_eq_true zh
  have:=Nat.mul_le_mul_left (ps.map Fn.row).length h8
  rw [List.length_map]at this hb
  exact⟨ps,rfl,by simpa using hl,Nat.le_trans this hb,hp⟩
 | struct h cs hl hf ih=>
  refine⟨fun e=> ?_,fun e=> zN⟩
  subst e
  rw [Tryz.underlying29]at h
  cases h
  match cs,hl with
  | [x0,x1,x2,x3,x4,x5,x6,x7,x8,x9,x10],_=>
   obtain⟨v0,rfl,l0⟩:=(hf 0 _ x0 rfl rfl).str_inv Tryz.underlying9
   obtain⟨v1,rfl,_⟩:=(hf 1 _ x1 rfl rfl).int_inv Tryz.underlying3
   obtain⟨v2,rfl,_⟩:=(hf 2 _ x2 rfl rfl).int_inv Tryz.underlying3
   obtain⟨v3,rfl⟩:=(hf 3 _ x3 rfl rfl).bool_inv Tryz.underlying4
   obtain⟨v4,rfl,_⟩:=(hf 4 _ x4 rfl rfl).int_inv Tryz.underlying3
   obtain⟨e5,rfl,l5,m5,h5⟩:=(hf 5 _ x5 rfl rfl).slice_invB Tryz.underlying22
   obtain⟨code,rfl⟩:=B2A fun row hr=>C8U (h5 row hr)
   obtain⟨e6,rfl,l6,m6,h6⟩:=(hf 6 _ x6 rfl rfl).slice_invB Tryz.underlying23
   obtain⟨lines,rfl⟩:=B2A (f:=E9) fun row hr=>by obtain⟨n,h,_⟩:=(h6 row hr).int_inv Tryz.underlying3;exact⟨n,h⟩
   obtain⟨e7,rfl,l7,m7,h7⟩:=(hf 7 _ x7 rfl rfl).slice_invB Tryz.underlying24
   obtain⟨consts,rfl⟩:=B2A fun row hr=>C8Y (h7 row hr)
   obtain⟨ps,rfl,l8,m8,hps⟩:=(ih 8 _ x8 rfl rfl).2 rfl
   obtain⟨e9,rfl,l9,m9,h9⟩:=(hf 9 _ x9 rfl rfl).slice_invB Tryz.underlying26
   obtain⟨ups,rfl⟩:=B2A fun row hr=>D3J (h9 row hr)
   obtain⟨e10,rfl,l10,m10,h10⟩:=(hf 10 _ x10 rfl rfl).slice_invB Tryz.underlying27
   obtain⟨vars,rfl⟩:=B2A fun row hr=>D3N (h10 row hr)
   simp only [List.length_map]at l5 l6 l7 l9 l10 m5 m6 m7 m9 m10
   have hB:reachBytes=140737488351232:=rfl
   rw [show Tryz.prog.bytesOf 72=40 from by kernel_rfl]at m5
   rw [show Tryz.prog.bytesOf 3=8 from by kernel_rfl]at m6
   rw [show Tryz.prog.bytesOf 78=48 from by kernel_rfl]at m7
   rw [show Tryz.prog.bytesOf 81=32 from by kernel_rfl]at m9
   rw [show Tryz.prog.bytesOf 84=48 from by kernel_rfl]at m10
   refine⟨⟨v0,v1,v2,v3,v4,code,lines,consts,ps,ups,vars⟩,by rw [Fn.row_eq];rfl,(Fn.wf_iff _).2 ⟨l0,l5,l6,l7,l8,l9,l10,fun q hq=>(hps q hq).1⟩,fun q hq=> ?_⟩
   rw [Fn.each_eq]at hq
   rcases List.mem_cons.1 hq with rfl|hq
   ·exact⟨by show code.length≤_;omega,by show lines.length≤_;omega,by show consts.length≤_;omega,by show ps.length≤_;omega,by show ups.length≤_;omega,by show vars.length≤_;omega⟩
   ·obtain⟨r,hr,hq⟩:=Fn.mem_eachs.1 hq
    exact(hps r hr).2 q hq
 |array h cs hl hf=>exact⟨fun e=> zM,fun e=> zN⟩
theorem B9x{vs:List V}(h:A7T Tryz.prog 29 vs): ∃p:Fn,vs=p.row∧p.wf∧p.bd:=(D5O h).1 rfl
end Go.Proofs.YtflobbpcabopjaaGreatDoor
