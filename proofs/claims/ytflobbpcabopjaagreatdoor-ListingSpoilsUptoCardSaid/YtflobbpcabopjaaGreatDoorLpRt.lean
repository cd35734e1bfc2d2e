/-
 How long the listing of a function is, by the bulk of the function. No program, no condition.
-/
import Derived.Test.YtflobbpcabopjaaGreatDoorLs0
import Derived.Test.YtflobbpcabopjaaGreatDoorLpR
import Derived.Test.YtflobbpcabopjaaGreatDoorLpPt
import Derived.Test.YtflobbpcabopjaaGreatDoorFnQ4
set_option linter.unusedVariables false set_option linter.unusedSimpArgs false set_option maxRecDepth 100000
set_option maxHeartbeats 0
namespace Go.Proofs.YtflobbpcabopjaaGreatDoor
section
open Go Go.Abs
def tot(l:List (Nat×List UInt8)):Nat:=(l.flatMap T2).length
theorem C0U(e:Nat×List UInt8)(l:List (Nat×List UInt8)):tot (e::l)=2*e.1+e.2.length+1+tot l:=by
 unfold tot T2
 rw [List.flatMap_cons]
 simp only [List.length_append,List.length_replicate,List.length_singleton]
 omega
theorem A3L(a b:List (Nat×List UInt8)):tot (a++b)=tot a+tot b:=by
 unfold tot
 rw [List.flatMap_append,List.length_append]
theorem A8B{α:Type}{f:Nat→α→List UInt8}{row:α→List V}{d:Nat}: ∀{l:List α} {i:Nat},(∀(j:Nat) x,l[j]? =some x→2*d+(f (i+j) x).length+1≤4*bkL (row x)+2000)→tot (C6 f d i l)≤4*bkLL (l.map row)+2000*l.length
 | [],_,_=>by simp [C6,tot]
 |x::r,i,hf=>by
  have h1:2*d+(f i x).length+1≤4*bkL (row x)+2000:=hf 0 x rfl
  have h2:=A8B (l:=r) (i:=i+1) (fun j y hy=>by have:=hf (j+1) y (by simpa using hy);rw [show i+1+j=i+(j+1) by omega];exact this)
  rw [C6,C0U,List.map_cons,bkLL,List.length_cons]
  simp only
  omega
theorem C5J{v:Kst}(h:I0 v=true):(A2b v).length≤4*v.str.length+50:=by
 unfold A2b
 split
 ·split<;>simp<;>omega
 ·rename_i k1
  split
  ·rename_i k2
   by_cases k0:v.kind=0
   ·omega
   have hn:H1 v.p v.q=true:=by
    unfold I0 at h
    rw [if_neg k0,if_neg zd,if_pos k2]at h
    simp only [Bool.and_eq_true]at h
    exact h.1
   have:=C0c (A5u hn).1 (A5u hn).2
   omega
  ·split
   ·have:=W2 v.str;omega
   ·simp
theorem C9q{p:Fn}(h:p.Okl){path:List UInt8}{d:Nat}(hp:path.length≤4+22*d)(hd:d≤64):
  tot (B2o p path d)≤4*(p.name.length+(bkLL (p.code.map Ins.row)+bkLL (p.consts.map Kst.row)+bkLL (p.ups.map Upv.row)+bkLL (p.vars.map Vr.row)))+2000*(1+p.consts.length+p.ups.length+p.vars.length+p.code.length):=by
 have hi: ∀{α:Type} {l:List α} {j:Nat} {x:α} {m:Nat},l[j]? =some x→l.length≤m→j<m:=fun h hm=>by have:=(List.getElem?_eq_some_iff.1 h).1;omega
 have hmem: ∀{α:Type} {l:List α} {j:Nat} {x:α},l[j]? =some x→x∈l:=fun h=>List.mem_of_getElem? h
 have t1:=A8B (f:=E6) (row:=Kst.row) (d:=d+1) (l:=p.consts) (i:=0) fun j x hx=>by
  have hv:=h.consts.2 x (hmem hx)
  have h1:=C5J hv.1
  have h2:(Lib.itoa ((0+j:Nat):Int)).length≤21:=A0v (by have:=hi hx h.consts.1;omega)
  unfold E6
  simp only [F1,List.length_append,List.length_cons,List.length_nil,Kst.row,bkL,bkV]
  omega
 have t2:=A8B (f:=upT) (row:=Upv.row) (d:=d+1) (l:=p.ups) (i:=0) fun j x hx=>by
  have hv:=h.ups.2 x (hmem hx)
  have h1:=W2 x.name
  have h2:(Lib.itoa ((0+j:Nat):Int)).length≤21:=A0v (by have:=hi hx h.ups.1;omega)
  have h3:=F6 hv.2
  unfold upT
  simp only [F1,List.length_append,List.length_cons,List.length_nil,Upv.row,bkL,bkV]
  exact YR
 have t3:=A8B (f:=O1) (row:=Vr.row) (d:=d+1) (l:=p.vars) (i:=0) fun j x hx=>by
  have hv:=h.vars.2 x (hmem hx)
  have h1:=W2 x.name
  have h2:(Lib.itoa ((0+j:Nat):Int)).length≤21:=A0v (by have:=hi hx h.vars.1;omega)
  have h3:=F6 hv.2.1
  have h4:=F6 hv.2.2.1
  have h5:=F6 hv.2.2.2.1
  unfold O1
  simp only [F1,List.length_append,List.length_cons,List.length_nil,Vr.row,bkL,bkV]
  split
  ·simp only [List.length_cons,List.length_nil];omega
  ·exact YR
 have t4:=A8B (f:=I2 p.lines) (row:=Ins.row) (d:=d+1) (l:=p.code) (i:=0) fun j x hx=>by
  have hj:=(List.getElem?_eq_some_iff.1 hx).1
  have h1:=B7J (h.code.2 x (hmem hx))
  have h2:(Lib.itoa ((0+j:Nat):Int)).length≤21:=A0v (by have:=hi hx h.code.1;omega)
  have h3:=B9Q h.lines.2 (i:=0+j) Qt
  unfold I2
  simp only [F1,List.length_append,List.length_cons,List.length_nil]
  omega
 have t0:(G5 p path).length≤path.length+4*p.name.length+200:=by
  have h1:=W2 p.name
  have h2:=F6 h.nums.1
  have h3:=F6 h.nums.2.1
  have h4:=F6 h.nums.2.2
  unfold G5
  simp only [F1,List.length_append,List.length_cons,List.length_nil]
  exact YR
 unfold B2o
 rw [C0U,A3L,A3L,A3L]
 simp only
 omega
mutual
theorem B7k: ∀(p:Fn),(∀q∈p.each,q.Okl)→ ∀(path:List UInt8) (d:Nat),path.length≤4+22*d→d+p.depth≤65→tot (F4 path d p)≤4*bkL p.row+2000*A0A p
 |⟨a,b,c,e,f,g,h,i,l,j,k⟩,hok,path,d,hpath,hd=>by
  rw [Fn.depth]at hd
  have h1:=C9q (hok _ (Fn.self_mem _)) hpath zd
  have h2:=(hok _ (Fn.self_mem _)).protos
  have h3:=liness_tot l (fun q hq=>hok q Qu) path (d+1) 0 zd zd (by simp only at h2;omega)
  rw [F4,A3L,C1i,A0A]
  simp only at h1⊢
  omega
theorem liness_tot: ∀(l:List Fn),(∀q∈Fn.eachs l,q.Okl)→ ∀(path:List UInt8) (d i:Nat),path.length+22≤4+22*d→d+Fn.depths l≤65→i+l.length≤2000→tot (linesFs path d i l)≤4*bkLL (l.map Fn.row)+2000*partsFs l
 | [],_,_,_,_,_,_,_=>by simp [linesFs,tot,bkLL,partsFs]
 |q::r,hok,path,d,i,hpath,hd,hi=>by
  rw [Fn.depths]at hd
  rw [List.length_cons]at hi
  have hil:(Lib.itoa (i:Int)).length≤21:=A0v zd
  have h1:=B7k q (fun x hx=>hok x (by rw [Fn.eachs];exact List.mem_append.2 (.inl hx))) (path++46::Lib.itoa i) d Qv zd
  have h2:=liness_tot r (fun x hx=>hok x (by rw [Fn.eachs];exact List.mem_append.2 (.inr hx))) path d (i+1) zd zd zd
  rw [linesFs,A3L,List.map_cons,bkLL,partsFs]
  omega
end
theorem C4V(p:Fn):3*A0A p≤bkL p.row:=by
 have t: ∀{α:Type} {row:α→List V} (h: ∀x,3≤bkL (row x)) (l:List α),3*l.length≤bkLL (l.map row):=by
  intro α row h l
  induction l with
  |nil=>simp [bkLL]
  |cons x r ih=>have:=h x;rw [List.map_cons,bkLL,List.length_cons];omega
 induction p using Fn.ind with
 |h p ih=>
 have key: ∀l:List Fn,(∀q∈l,3*A0A q≤bkL q.row)→3*partsFs l≤bkLL (l.map Fn.row):=by
  intro l
  induction l with
  |nil=>intro _;simp [partsFs,bkLL]
  |cons q r ihr=>
   intro h
   have h1:=h q List.mem_cons_self
   have h2:=ihr fun x hx=>h x (List.mem_cons_of_mem _ hx)
   rw [partsFs,List.map_cons,bkLL];omega
 have h0:=key p.protos ih
 have h1:=t (row:=Kst.row) (fun x=>by simp only [Kst.row,bkL,bkV];omega) p.consts
 have h2:=t (row:=Upv.row) (fun x=>by simp only [Upv.row,bkL,bkV];omega) p.ups
 have h3:=t (row:=Vr.row) (fun x=>by simp only [Vr.row,bkL,bkV];omega) p.vars
 have h4:=t (row:=Ins.row) (fun x=>by simp only [Ins.row,bkL,bkV];omega) p.code
 rw [B7v,C1i]
 omega
theorem B1X{p:Fn}(hd:p.depth≤64)(hok: ∀q∈p.each,q.Okl)(hb:bkL p.row≤1048576):(N4 p).length≤1000000000∧(N4 p).count 10≤1000000∧LB (N4 p):=by
 have h1:=B7k p hok [109,97,105,110] 0 zf zd
 have h2:=C4V p
 have h3:=A8r p
 refine⟨?_,by omega,?_⟩
 ·unfold tot at h1
  unfold N4
  omega
 ·have e:N4 p=((F4 A2z 0 p).map N0).flatMap fun l=>l++ [10]:=by
   exact YZ
  rw [e]
  refine LB.lines fun l hl=> ?_
  obtain⟨x,hx,rfl⟩:=List.mem_map.1 hl
  have:=A8q hd hok x hx
  unfold N0
  rw [List.length_append,List.length_replicate]
  omega
end
section
open Go Go.Abs
attribute [local irreducible] A0 Run NB NP hFn hOk hS6
theorem C2b{p:Fn}(hc:A1f p=0)(hok: ∀q∈p.each,q.Okl):P7 (N4 p)= .tup [.agg p.row,.int .i64 0,.int .i64 0]:=by
 obtain⟨st,n,h1,h2,h3⟩:=C4L (F:=D8) (G:=F3) (fun p q h=>C4U h) (fun x h=>C4A h) hok
 unfold P7
 rw [h1]
 simp only
 rw [h2]
 simp only
 rw [h3,if_pos hc]
attribute [local irreducible] P7
theorem C8d(p:Fn)(hp:p.bd)(hv:n64L p.row)(hc:p.each.length≤1000000)(hb:bkL p.row≤1048576):Abs.Pure Tryz.prog 7 [.agg p.row] (.bool true):=by
 have aw:=B0C
 have hlg:=B5k p hp hc
 obtain⟨g1,g2⟩:=C9 p
 have hps:=Fn.row_sub I6 p
 have hd:p.depth≤1000000:=Nat.le_trans (Fn.depth_each p) zd
 have hck:=A1W p hp hd
 by_cases hl:(p.each.length:Int)>60∨A3D p.each>2000
 ·rw [decide_eq_true hl]at hlg
  generalize p.row=pr at*
  refine Pure.of 0 (A0.enter F0 Jo (Run.go 100 ?_))
  refine QG ?_
  refine A0.pureF hlg zl ?_
  exact YL
 rw [decide_eq_false hl]at hlg
 have htx:=A4L p hp hd hv zd
 unfold B6e at htx
 by_cases hk: ¬A1f p=0
 ·rw [if_neg hk]at htx
  generalize A1f p=c at*
  generalize p.row=pr at*
  refine Pure.of 0 (A0.enter F0 Jo (Run.go 100 ?_))
  refine QG ?_
  refine A0.pureF hlg zl ?_
  refine QC ?_
  refine A0.pureF htx zl ?_
  simp -implicitDefEqProofs only [go_sem,hk,g1,g2]
  refine A0.pureF hck zl ?_
  exact YL
 have hk:A1f p=0:=Classical.not_not.1 hk
 rw [if_pos hk]at htx
 obtain⟨hdep,hok⟩:=B3m hk hv
 obtain⟨z1,z2,z3⟩:=B1X hdep hok hb
 have hpa:=A8T (N4 p) z1 z3 z2
 rw [C2b hk hok]at hpa
 have hs1:=C5f p hp p
 have hs2:=B5O p p hp hp hc hc
 rw [A9N rfl]at hs1 hs2
 generalize N4 p=s at*
 generalize p.row=pr at*
 refine Pure.of 0 (A0.enter F0 Jo (Run.go 100 ?_))
 refine QG ?_
 refine A0.pureF hlg zl ?_
 refine QC ?_
 refine A0.pureF htx zl ?_
 refine Qy ?_
 refine A0.pureF hpa ze ?_
 refine QC ?_
 refine A0.pureF hs1 zl ?_
 refine QC ?_
 refine A0.pureF hs2 zl ?_
 exact YL
theorem A6x(n0:List V)(w0:A7T Tryz.prog 29 n0)(hsm:bkL [.agg n0]≤1048576):Abs.Pure Tryz.prog 7 [.agg n0] (.bool true):=by
 have v0:=B7K w0
 obtain⟨p,rfl,hp,hb⟩:=B9x w0
 simp only [bkL,bkV]at hsm
 exact C8d p hb v0 (by have:=C2V p;omega) zd
end
section
open Go Go.Abs
attribute [local irreducible] A0 Run NB NP hFn hOk hS6 P7
theorem C5C(p:Fn)(hp:p.bd)(hv:n64L p.row)(hc:p.each.length≤1000000)(hb:bkL p.row≤1048576)(line:Int):Abs.Pure Tryz.prog 6 [.agg p.row,.int .i64 line] (.bool true):=by
 have aw:=B0C
 have hlg:=B5k p hp hc
 obtain⟨g1,g2⟩:=C9 p
 have hps:=Fn.row_sub I6 p
 have hd:p.depth≤1000000:=Nat.le_trans (Fn.depth_each p) zd
 by_cases hl:(p.each.length:Int)>60∨A3D p.each>2000
 ·rw [decide_eq_true hl]at hlg
  generalize p.row=pr at*
  refine Pure.of 0 (A0.enter E2 Jo (Run.go 100 ?_))
  refine QG ?_
  refine A0.pureF hlg zl ?_
  exact YL
 rw [decide_eq_false hl]at hlg
 by_cases hneg:line<0
 ·have q0:(line<0)=True:=eq_true hneg
  generalize p.row=pr at*
  refine Pure.of 0 (A0.enter E2 Jo (Run.go 100 ?_))
  refine QG ?_
  refine A0.pureF hlg zl ?_
  simp -implicitDefEqProofs only [go_sem,q0]
  exact JM
 have q0:(line<0)=False:=eq_false hneg
 have htx:=A4L p hp hd hv zd
 unfold B6e at htx
 by_cases hk: ¬A1f p=0
 ·rw [if_neg hk]at htx
  generalize A1f p=c at*
  generalize p.row=pr at*
  refine Pure.of 0 (A0.enter E2 Jo (Run.go 100 ?_))
  refine QG ?_
  refine A0.pureF hlg zl ?_
  simp -implicitDefEqProofs only [go_sem,q0,g1,g2]
  refine A0.pureF htx zl ?_
  simp -implicitDefEqProofs only [go_sem,hk]
  exact JM
 have hk:A1f p=0:=Classical.not_not.1 hk
 rw [if_pos hk]at htx
 obtain⟨hdep,hok⟩:=B3m hk hv
 obtain⟨z1,z2,z3⟩:=B1X hdep hok hb
 have hsame: ∀q:Fn,A1f q=0→n64L q.row→(N4 q).count 10≤1000000→(N4 q).length<(N4 p).length→Abs.Pure Tryz.prog 16 [.agg p.row,.agg q.row] (.bool false):=by
  intro q h1 h2 h3 h4
  obtain⟨_,hokq⟩:=B3m h1 h2
  have hq:=B4V q
  rw [A8r]at h3
  have:=B5O p q hp (C1Y hokq) hc zd
  rw [L3 (fun e=>by rw [e]at h4;exact Nat.lt_irrefl _ h4)]at this
  exact this
 generalize N4 p=s at*
 generalize p.row=pr at*
 refine Pure.of 0 (A0.enter E2 Jo (Run.go 100 ?_))
 refine QG ?_
 refine A0.pureF hlg zl ?_
 simp -implicitDefEqProofs only [go_sem,q0,g1,g2]
 refine A0.pureF htx zl ?_
 refine Qy ?_
 refine Run.roundsK (fun(y:Nat×Nat×Nat×Nat)=>⟨[(9,.int .i64 y.1),(8,.int .i64 y.2.1),(7,.int .i64 y.2.2.1),(5,.str s),(2,.ptr (6*10000+2) 0 0 0),(1,.int .i64 line)],[((6*10000+2),0,.rows 11 [pr])],y.2.2.2⟩)
  (fun y=>y.1≤s.length∧y.2.1≤y.1∧(y.2.1=0∨s[y.2.1-1]? =some 10)∧y.2.2.1≤y.1) (fun y=>s.length-y.1) (0,0,0,1) (E8.wk ⟨B0.1 ze,fun _ h=>h,Nat.le_refl _⟩) ⟨Nat.zero_le _,Nat.le_refl _,.inl rfl,Nat.le_refl _⟩ ?_
 rintro⟨i,f,nn,m⟩ ⟨h1,h2,h3,h4⟩ ih
 simp only at h1 h2 h3 h4 ih⊢
 refine Run.unf n8 (Run.go 100 ?_)
 by_cases hlt:i<s.length
 rotate_left
 ·have w1:((i:Int)<(s.length:Int))=False:=Jn
  simp -implicitDefEqProofs only [go_sem,w1]
  exact JM
 have w1:((i:Int)<(s.length:Int))=True:=Jm
 have w2:((0:Int)≤(i:Int))=True:=Jm
 obtain⟨c,hcx⟩: ∃c,s[i]? =some c:=⟨s[i],by simp [hlt]⟩
 have hz:((i+1:Nat):Int)=(i:Int)+1:=by omega
 have hz2:((nn+1:Nat):Int)=(nn:Int)+1:=by omega
 by_cases h10:c=10
 rotate_left
 ·have w3:((c.toNat:Int)=10)=False:=eq_false (fun h=>h10 (UInt8.toNat_inj.1 (by show c.toNat=10;omega)))
  simp -implicitDefEqProofs only [go_sem,w1,w2,hcx,w3]
  refine⟨by omega,?_⟩
  exact ih _ (i+1,f,nn,m) ⟨by simp only;omega,by simp only;omega,h3,by simp only;omega⟩ zj (E8.wk ⟨B0.1 (by simp -implicitDefEqProofs only [go_sem,hz]),fun _ h=>h,Nat.le_refl _⟩)
 subst h10
 have w3:((((10:UInt8).toNat:Nat):Int)=10)=True:=eq_true rfl
 by_cases hn:(nn:Int)=line
 rotate_left
 ·have w4:((nn:Int)=line)=False:=eq_false hn
  simp -implicitDefEqProofs only [go_sem,w1,w2,hcx,w3,w4]
  refine⟨by omega,by omega,by omega,?_⟩
  exact ih _ (i+1,i+1,nn+1,m) ⟨by simp only;omega,by simp only;omega,.inr (by simpa using hcx),by simp only;omega⟩ zj (E8.wk ⟨B0.1 (by simp -implicitDefEqProofs only [go_sem,hz,hz2]),fun _ h=>h,Nat.le_refl _⟩)
 have w4:((nn:Int)=line)=True:=eq_true hn
 -- the text without the line
 have e1:s.take ((f:Int)-0).toNat=s.take f:=C0S s f
 have e2:=B4T s i
 have hl1:(s.take f).length=f:=by rw [List.length_take];omega
 have hl2:(s.drop (i+1)).length=s.length-(i+1):=List.length_drop ..
 have hs:s=s.take f++((s.drop f).take (i-f)++10::s.drop (i+1)):=by
  have a1:(s.drop f).drop (i-f)=10::s.drop (i+1):=by
   rw [List.drop_drop,show f+(i-f)=i by omega]
   exact B1H hcx
  rw [←a1,List.take_append_drop,List.take_append_drop]
 have hx:s.take f= []∨ ∃z,s.take f=z++ [10]:=by
  rcases h3 with h|h
  ·exact .inl (by rw [h];rfl)
  ·by_cases h0:f=0
   ·exact .inl (by rw [h0];rfl)
   ·refine .inr ⟨s.take (f-1),?_⟩
    have:s.take (f-1+1)=s.take (f-1)++ [10]:=by rw [List.take_add_one,h];rfl
    rwa [show f-1+1=f by omega]at this
 have hLB:LB (s.take f++s.drop (i+1)):=by
  rw [hs]at z3
  exact z3.without hx
 have hlen:(s.take f++s.drop (i+1)).length<s.length:=by rw [List.length_append,hl1,hl2];omega
 have hcnt:(s.take f++s.drop (i+1)).count 10≤1000000:=by
  have:=congrArg (List.count 10) hs
  simp only [List.count_append,List.count_cons]at this
  rw [List.count_append]
  omega
 have hpa:=A8T _ zd hLB hcnt
 have hrc:=B5H _ hcnt
 have hbd:(s.take f).length+(s.drop (i+1)).length≤1099511627776:=by omega
 rcases hrc with⟨k,hk1,e⟩|⟨c,hc1,e⟩|⟨q,hcq,hlq,hnq,e⟩
 ·rw [e]at hpa
  have hzr:zFn.row= [.str [],.int .i64 0,.int .i64 0,.bool false,.int .i64 0,.isl [],.isl [],.isl [],.isl [],.isl [],.isl []]:=rfl
  rw [hzr]at hpa
  simp -implicitDefEqProofs only [go_sem,w1,w2,hcx,w3,w4,e1,e2]
  refine⟨⟨by omega,by omega,⟨by omega,by omega⟩,by omega,by omega,by omega,by omega,?_⟩,by omega,by omega,⟨by omega,by omega⟩,by omega,by omega,by omega,by omega,?_⟩
  all_goals
   refine A0.pureF hpa ze ?_
   exact YL
 ·rw [e]at hpa
  have hzr:zFn.row= [.str [],.int .i64 0,.int .i64 0,.bool false,.int .i64 0,.isl [],.isl [],.isl [],.isl [],.isl [],.isl []]:=rfl
  rw [hzr]at hpa
  have w5:(c=0)=False:=eq_false hc1
  simp -implicitDefEqProofs only [go_sem,w1,w2,hcx,w3,w4,e1,e2]
  refine⟨⟨by omega,by omega,⟨by omega,by omega⟩,by omega,by omega,by omega,by omega,?_⟩,by omega,by omega,⟨by omega,by omega⟩,by omega,by omega,by omega,by omega,?_⟩
  all_goals
   refine A0.pureF hpa ze ?_
   simp -implicitDefEqProofs only [go_sem,w5]
   exact JM
 ·rw [e]at hpa
  have hsm:=hsame q hcq hnq (by rw [hlq];exact hcnt) (by rw [hlq];exact hlen)
  obtain⟨k1,k2⟩:=C9 q
  have hqs:=Fn.row_sub I6 q
  generalize q.row=qr at*
  simp -implicitDefEqProofs only [go_sem,w1,w2,hcx,w3,w4,e1,e2]
  refine⟨⟨by omega,by omega,⟨by omega,by omega⟩,by omega,by omega,by omega,by omega,?_⟩,by omega,by omega,⟨by omega,by omega⟩,by omega,by omega,by omega,by omega,?_⟩
  all_goals
   refine A0.pureF hpa ze ?_
   simp -implicitDefEqProofs only [go_sem,g1,g2,k1,k2]
   refine A0.pureF hsm (by simp -implicitDefEqProofs only [go_sem,hps,hqs]) ?_
   exact YL
theorem B0Q(n0:List V)(w0:A7T Tryz.prog 29 n0)(n1:Int)(w1:(Lit.int .i64 n1).wf=true)(hsm:bkL [.agg n0,.int .i64 n1]≤1048576):Abs.Pure Tryz.prog 6 [.agg n0,.int .i64 n1] (.bool true):=by
 have v0:=B7K w0
 obtain⟨p,rfl,hp,hb⟩:=B9x w0
 simp only [bkL,bkV]at hsm
 exact C5C p hb v0 (by have:=C2V p;omega) zd n1
end
end Go.Proofs.YtflobbpcabopjaaGreatDoor
