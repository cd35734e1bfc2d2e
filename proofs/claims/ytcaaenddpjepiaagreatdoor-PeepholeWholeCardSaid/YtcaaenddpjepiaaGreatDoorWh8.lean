/-
 What peephole.each answers. No condition.
-/
import Derived.Test.YtcaaenddpjepiaaGreatDoorVer7
import Derived.Test.YtcaaenddpjepiaaGreatDoorWh5
import Derived.Test.YtcaaenddpjepiaaGreatDoorRvA
import Derived.Test.YtcaaenddpjepiaaGreatDoorLiveP
import Derived.Test.YtcaaenddpjepiaaGreatDoorOpc3
import Derived.Test.YtcaaenddpjepiaaGreatDoorFnRc
set_option linter.unusedVariables false
set_option linter.unusedSimpArgs false
set_option maxRecDepth 1000000
set_option maxHeartbeats 0
namespace Go.Proofs.YtcaaenddpjepiaaGreatDoor
section
open Go.Abs
theorem A7M{p:Fn}(h:A3b p=0):A3Q p=0∧f8 p=0∧ ∀i∈p.code,R4 p i=0:=by
 unfold A3b at h
 split at h
 ·omega
 split at h
 ·omega
 split at h
 ·omega
 rename_i c a b
 simp only [ne_eq,Classical.not_not]at c a b
 exact⟨c,a,fun i d=>A5U.1 b _ (List.mem_map_of_mem d)⟩
theorem B3H{p:Fn}(h:A3Q p=0):p.code.length≤16384∧p.protos.length≤1024∧p.vars.length≤16384∧p.regs≤4096:=by
 unfold A3Q at h
 split at h
 ·rename_i a;exact⟨a.1,a.2.2.1,a.2.2.2.2.1,a.2.2.2.2.2.1⟩
 ·omega
theorem C3v{p:Fn}(h:f8 p=0):(p.lines.length=0∨p.lines.length=p.code.length)∧ ∀v∈p.vars,0≤v.lo∧v.lo≤v.hi∧v.hi≤p.code.length:=by
 unfold f8 at h
 split at h
 ·rename_i c
  obtain⟨f,j,l,m,g,b,i,k,e,a⟩:=c
  refine⟨b,fun v d=> ?_⟩
  rw [List.any_eq_false]at a
  have:=a v d
  simp [r7]at this
  omega
 ·omega
theorem A3E{p:Fn}{i:Ins}(h:R4 p i=0):chk i=0∧(G9 i.op=true→0≤i.b∧i.b<p.code.length):=by
 unfold R4 at h
 split at h
 ·rename_i a;exact absurd h a
 ·rename_i a
  split at h
  ·rename_i b;exact⟨by simpa using a,b.2.2.1⟩
  ·omega
theorem D2X{i:Ins}(h:chk i=0):A4j (frm i.op).a i.a=true:=by
 unfold chk at h
 split at h
 ·omega
 ·dsimp only at h
  split at h
  ·omega
  ·split at h
   ·omega
   ·rename_i a
    simp only [Bool.not_eq_false,Bool.and_eq_true]at a
    exact a.1.1.1
theorem B5u{i:Ins}(h:chk i=0)(a:i.op=26∨i.op=1):0≤i.a∧i.a≤4095:=by
 have c:=D2X h
 have d:(frm i.op).a=1:=by rcases a with a|a<;>rw [a]<;>decide
 rw [d]at c
 have b:low 1≤i.a∧i.a≤high 1:=of_decide_eq_true c
 rw [show low 1=0 by decide,show high 1=4095 by decide]at b
 exact b
theorem A7Z{p:Fn}(h:L5 (G1 p)=0):A3b (G1 p)=0:=((A9T _).1 h).2 _ (G1 p).self_mem
theorem B6N{p:Fn}(h:L5 (G1 p)=0):RemOK p:=by
 obtain⟨k,e,j⟩:=A7M (A7Z h)
 obtain⟨a,m,c,n⟩:=B3H k
 obtain⟨b,g⟩:=C3v e
 have a:p.code.length≤16384:=a
 have c:p.vars.length≤16384:=c
 have b:p.lines.length=0∨p.lines.length=p.code.length:=b
 refine⟨by omega,b.symm,fun i d l=> ?_,fun v f=> ?_,by omega⟩
 ·have:0≤i.b∧i.b<p.code.length:=(A3E (j i d)).2 l
  omega
 ·have:0≤v.lo∧v.lo≤v.hi∧v.hi≤p.code.length:=g v f
  omega
theorem D3x{p:Fn}(h:L5 (G1 p)=0):InJ p.code:=fun i a b=>(A3E ((A7M (A7Z h)).2.2 i a)).2 b
theorem B4N: ∀(l:List Fn),∀x∈Fn.eachs (l.map L8),∃q∈l,x=L8 q
 | [],x,h=>by cases h
 | q::r,x,h=>by
  rw [List.map_cons,Fn.eachs,Fn.each_eq]at h
  rcases List.mem_append.1 h with h|h
  ·rcases List.mem_cons.1 h with h|h
   ·exact⟨q,List.mem_cons_self,h⟩
   ·cases h
  ·obtain⟨y,a,e⟩:=B4N r x h
   exact⟨y,List.mem_cons_of_mem _ a,e⟩
theorem B3g: ∀(l:List Fn),Fn.depths (l.map L8)≤1
 | []=>by simp [Fn.depths]
 |q::r=>by
  rw [List.map_cons,Fn.depths,Fn.depth_eq]
  have:=B3g r
  have h:Fn.depths (L8 q).protos=0:=by show Fn.depths []=0;rw [Fn.depths]
  omega
theorem C0A(p:Fn):(G1 p).depth≤2:=by
 rw [Fn.depth_eq]
 have:=B3g p.protos
 show Fn.depths (p.protos.map L8)+1≤2
 omega
theorem C7O{p:Fn}(e:p.bd):(G1 p).bd:=by
 intro x h
 rw [Fn.each_eq]at h
 rcases List.mem_cons.1 h with rfl|h
 ·obtain⟨a,c,b,g,d,f⟩:=e.self
  exact⟨a,c,b,by show (p.protos.map L8).length≤_;rw [List.length_map];exact g,d,f⟩
 ·obtain⟨q,i,rfl⟩:=B4N p.protos x h
  exact⟨by show 1≤_;omega,Nat.zero_le _,Nat.zero_le _,Nat.zero_le _,by show ((q.ups.take 60).map A0o).length≤_;simp;omega,Nat.zero_le _⟩
structure FewF(p:Fn):Prop where
 bd:p.bd
 tot:p.tot≤200
theorem FewF.child{p q:Fn}(h:FewF p)(a:q∈p.protos):FewF q:=
 ⟨h.bd.child a,by have:=C2N a;have:=h.tot;rw [Fn.tot_eq]at this;omega⟩
theorem FewF.code{p:Fn}(h:FewF p):p.code.length≤200:=by have:=h.tot;rw [Fn.tot_eq]at this;omega
theorem FewF.protos{p:Fn}(h:FewF p):p.protos.length≤200:=by
 have a:=(B7m p).1
 have b:=h.tot
 rw [Fn.each_eq,List.length_cons]at a
 have:=Fn.eachs_len p.protos
 omega
theorem FewF.hb(p:Fn)(h:FewF p):p.protos.length≤100000∧(∀q∈p.protos,q.ups.length≤4398046510976)∧(G1 p).bd∧(G1 p).depth≤1000000:=
 ⟨by have:=h.protos;omega,fun q a=>(h.bd.child a).self.ups,C7O h.bd,by have:=C0A p;omega⟩
theorem C3E(p:Fn)(h:FewF p):Pure Tryz.prog 22 [.agg p.row,.fn 23 []] (.agg (C0 C8 p).row):=
 B0E _ rfl C8 FewF (fun p h q b=>h.child b) FewF.hb (fun p h a=>C1p p (by have:=h.code;omega) (D3x a)) p h
theorem C6a(p:Fn)(h:FewF p):Pure Tryz.prog 22 [.agg p.row,.fn 33 []] (.agg (C0 G2 p).row):=
 B0E _ rfl G2 FewF (fun p h q b=>h.child b) FewF.hb (fun p h a=>C6b p (B6N a) (by have:=h.code;omega)) p h
theorem C3N(p:Fn)(h:FewF p):Pure Tryz.prog 22 [.agg p.row,.fn 26 []] (.agg (C0 E4 p).row):=
 B0E _ rfl E4 FewF (fun p h q e=>h.child e) FewF.hb (fun p h c=>by
  obtain⟨f,g,d⟩:=A7M (A7Z c)
  exact B1F p (B6N c) (by have:=h.code;omega) h.bd (FewF.hb p h).2.1 (B3H f).2.2.2
   (fun i a b=>(B5u (A3E (d i a)).1 (.inl b)).1) (fun i a b=>by have:=(B5u (A3E (d i a)).1 (.inr b)).2;omega)) p h
end
section
open Go.Abs
attribute [local irreducible] A0 Run
def A3P(l:List Ins):Fn:=⟨[],0,0,false,2,l,[],[],[],[],[]⟩
def i5(a b c d e:Int):List V:= [.int .i64 a,.int .i64 b,.int .i64 c,.int .i64 d,.int .i64 e]
def H5(l:List (List V)):List V:= [.str [],.int .i64 0,.int .i64 0,.bool false,.int .i64 2,.isl l,.isl [],.isl [],.isl [],.isl [],.isl []]
theorem U5(l:List Ins):(A3P l).row=H5 (l.map Ins.row):=by rw [Fn.row_eq];rfl
def stI:Ins:=⟨29,0,0,0,0⟩
def reI:Ins:=⟨18,0,0,0,0⟩
def aF:Fn:=A3P [⟨14,0,2,0,0⟩,stI,⟨14,0,1,0,0⟩]
def bF:Fn:=A3P [⟨1,1,1,0,0⟩,stI,reI]
def cF:Fn:=A3P [reI,stI,reI]
def c1F:Fn:=A3P [reI]
def stR:List V:=i5 29 0 0 0 0
def reR:List V:=i5 18 0 0 0 0
def C1u(T:List (FuncId×List V×V))(lib:Q9):Q9:=fun f xs h n=>find f xs h n T
where
 find (f:FuncId) (xs:List V) (h:A2) (n:Nat):List (FuncId×List V×V)→t8
  | []=>lib f xs h n
  |e::r=>bif Nat.beq e.1 f&&V.beqL e.2.1 xs then K2 e.2.2 h n else find f xs h n r
theorem C1v{T:List (FuncId×List V×V)}{l:Q9}(g: ∀e∈T,Abs.Pure Tryz.prog e.1 e.2.1 e.2.2∧e.2.1.map (V.sub C7)=e.2.1)(m:N9 Tryz.prog l):N9 Tryz.prog (C1u T l):=by
 intro f b h n k a
 have c: ∀t:List (FuncId×List V×V),(∀e∈t,e∈T)→Go.Abs.Good (C1u.find l f b h n t) k→A0 Tryz.prog f b h n k:=by
  intro t
  induction t with
  |nil=>exact fun _ a=>m f b h n k a
  | cons e r p=>
   intro d a
   simp only [C1u.find]at a
   cases hb:Nat.beq e.1 f&&V.beqL e.2.1 b with
   |false=>rw [hb]at a;exact p (fun x i=>d x (List.mem_cons_of_mem _ i)) a
   |true=>
    rw [hb,cond_true]at a
    rw [Bool.and_eq_true]at hb
    obtain⟨o,j⟩:=g e (d e List.mem_cons_self)
    rw [←Nat.eq_of_beq_eq_true hb.1,←V.beqL_eq hb.2]
    exact A0.pure o j a.one
 exact c T (fun _ h=>h) a
theorem nx0:Abs.Pure Tryz.prog 59 [.agg (H5 [reR,stR,reR]),.int .i64 0] (.isl []):=by
 have h:=A1L [reI,stI,reI] 0 zh (.str []) (.int .i64 0) (.int .i64 0) (.bool false) (.int .i64 2) (.isl []) (.isl []) (.isl []) (.isl []) (.isl [])
 rwa [show C5 [reI,stI,reI] 0= [] by decide+kernel]at h
theorem nx1:Abs.Pure Tryz.prog 59 [.agg (H5 [reR,stR,reR]),.int .i64 1] (.isl [[.int .i64 2]]):=by
 have h:=A1L [reI,stI,reI] 1 zh (.str []) (.int .i64 0) (.int .i64 0) (.bool false) (.int .i64 2) (.isl []) (.isl []) (.isl []) (.isl []) (.isl [])
 rwa [show C5 [reI,stI,reI] 1= [2] by decide+kernel]at h
theorem nx2:Abs.Pure Tryz.prog 59 [.agg (H5 [reR,stR,reR]),.int .i64 2] (.isl []):=by
 have h:=A1L [reI,stI,reI] 2 zh (.str []) (.int .i64 0) (.int .i64 0) (.bool false) (.int .i64 2) (.isl []) (.isl []) (.isl []) (.isl []) (.isl [])
 rwa [show C5 [reI,stI,reI] 2= [] by decide+kernel]at h
theorem nx3:Abs.Pure Tryz.prog 59 [.agg (H5 [reR]),.int .i64 0] (.isl []):=by
 have h:=A1L [reI] 0 zh (.str []) (.int .i64 0) (.int .i64 0) (.bool false) (.int .i64 2) (.isl []) (.isl []) (.isl []) (.isl []) (.isl [])
 rwa [show C5 [reI] 0= [] by decide+kernel]at h
def D7S:Q9:=C1u [
 (59,[.agg (H5 [reR,stR,reR]),.int .i64 0],.isl []),
 (59,[.agg (H5 [reR,stR,reR]),.int .i64 1],.isl [[.int .i64 2]]),
 (59,[.agg (H5 [reR,stR,reR]),.int .i64 2],.isl []),
 (59,[.agg (H5 [reR]),.int .i64 0],.isl [])] C8S
theorem B9N:N9 Tryz.prog D7S:=C1v (fun e h=>by
 simp only [List.mem_cons,List.not_mem_nil,or_false]at h
 rcases h with rfl|rfl|rfl|rfl
 ·exact⟨nx0,rfl⟩
 ·exact⟨nx1,rfl⟩
 ·exact⟨nx2,rfl⟩
 ·exact⟨nx3,rfl⟩) A8n
theorem C9H:Abs.Pure Tryz.prog 68 [.agg (H5 [reR,stR,reR]),.isl []] (.tup [.isl [],.int .i64 0,.bool false]):=
 Pure.execB (m:=20000) (d:=20) (fr:=1) A2x B9N zj
theorem D6K:Abs.Pure Tryz.prog 23 [.agg (H5 [i5 14 0 2 0 0,stR,i5 14 0 1 0 0])] (.agg (H5 [i5 14 0 1 0 0,stR,i5 14 0 1 0 0])):=
 Pure.execB (m:=20000) (d:=20) (fr:=1) A2x A8n zj
theorem D6L:Abs.Pure Tryz.prog 23 [.agg (H5 [reR,stR,reR])] (.agg (H5 [reR,stR,reR])):=
 Pure.execB (m:=20000) (d:=20) (fr:=1) A2x A8n zj
theorem D3B:Abs.Pure Tryz.prog 23 [.agg (H5 [reR])] (.agg (H5 [reR])):=
 Pure.execB (m:=20000) (d:=20) (fr:=1) A2x A8n zj
theorem D3e:Abs.Pure Tryz.prog 33 [.agg (H5 [reR,stR,reR])] (.agg (H5 [reR])):=
 Pure.execB (m:=20000) (d:=20) (fr:=1) A2x B9N zj
theorem D0F:Abs.Pure Tryz.prog 33 [.agg (H5 [reR])] (.agg (H5 [reR])):=
 Pure.execB (m:=20000) (d:=20) (fr:=1) A2x B9N zj
theorem D1s:Abs.Pure Tryz.prog 15 [.agg (H5 [reR,stR,reR]),.agg (H5 [reR])] (.bool false):=
 Pure.execB (m:=20000) (d:=20) (fr:=1) A2x A8n zj
theorem C9G:Abs.Pure Tryz.prog 15 [.agg (H5 [reR]),.agg (H5 [reR])] (.bool true):=
 Pure.execB (m:=20000) (d:=20) (fr:=1) A2x A8n zj
theorem C8d(l:List Ins):(A3P l).each= [A3P l]:=by rw [Fn.each_eq];rfl
theorem B9n(l:List Ins)(h:l.length≤10):(A3P l).bd:=by
 intro q a
 rw [C8d]at a
 obtain rfl:=List.mem_singleton.1 a
 exact⟨by show l.length≤_;omega,Nat.zero_le _,Nat.zero_le _,Nat.zero_le _,Nat.zero_le _,Nat.zero_le _⟩
theorem B3z(l:List Ins):G1 (A3P l)=A3P l:=rfl
theorem B7T(l:List Ins):(A3P l).depth≤1000000:=by rw [Fn.depth_eq,show (A3P l).protos= [] from rfl,Fn.depths];decide
theorem D6r:L5 aF=0:=by decide+kernel
theorem D6s:L5 bF=0:=by decide+kernel
theorem C7Z:L5 cF=0:=by decide+kernel
theorem C3e:L5 c1F=0:=by decide+kernel
theorem A4X(f:FuncId)(c:K8 Tryz.prog f=true)(l l2:List Ins)(e:l.length≤10)(d:L5 (A3P l)=0)(h:Abs.Pure Tryz.prog f [.agg (A3P l).row] (.agg (A3P l2).row)):
  Abs.Pure Tryz.prog 22 [.agg (A3P l).row,.fn f []] (.agg (A3P l2).row):=by
 have:=B0E f c (fun _=>A3P l2) (fun p=>p=A3P l) (fun p a q b=>by subst a;cases b) (fun p a=>by
  subst a
  exact⟨Nat.zero_le _,(fun q b=>by cases b),by rw [B3z];exact B9n l e,by rw [B3z];exact B7T l⟩) (fun p a _=>by subst a;exact h) (A3P l) rfl
 rw [X0,B3z,if_pos d]at this
 exact this
theorem B6k{l l2:List Ins}(h:Abs.Pure Tryz.prog 22 [.agg (A3P l).row,.fn 23 []] (.agg (A3P l2).row)):Abs.Pure Tryz.prog 10 [.agg (H5 (l.map Ins.row))] (.agg (H5 (l2.map Ins.row))):=by
 rw [U5,U5]at h
 have e:=Fn.row_sub C7 (A3P l)
 have b:=Fn.row_sub C7 (A3P l2)
 rw [U5]at e b
 refine Pure.of 0 (A0.enter A2C Jk (Run.go 100 ?_))
 generalize d:H5 (l.map Ins.row)=r at*
 generalize a:H5 (l2.map Ins.row)=c at*
 have f:r.length=11:=by rw [←d];rfl
 have o:r.take 11=r:=by rw [←d];rfl
 have i:c.length=11:=by rw [←a];rfl
 have g:c.take 11=c:=by rw [←a];rfl
 simp -implicitDefEqProofs only [go_sem,A4,f,o]
 refine A0.pureF h QG ?_
 simp -implicitDefEqProofs only [go_sem,f,o,i,g,Nat.reduceDiv]
 exact b
theorem D0T:Abs.Pure Tryz.prog 10 [.agg (H5 [i5 14 0 2 0 0,stR,i5 14 0 1 0 0])] (.agg (H5 [i5 14 0 1 0 0,stR,i5 14 0 1 0 0])):=
 B6k (l:= [⟨14,0,2,0,0⟩,stI,⟨14,0,1,0,0⟩]) (l2:= [⟨14,0,1,0,0⟩,stI,⟨14,0,1,0,0⟩]) (A4X _ rfl _ _ zh D6r (by rw [U5,U5];exact D6K))
theorem D0U:Abs.Pure Tryz.prog 10 [.agg (H5 [reR,stR,reR])] (.agg (H5 [reR,stR,reR])):=
 B6k (l:= [reI,stI,reI]) (l2:= [reI,stI,reI]) (A4X _ rfl _ _ zh C7Z (by rw [U5];exact D6L))
theorem C8O:Abs.Pure Tryz.prog 10 [.agg (H5 [reR])] (.agg (H5 [reR])):=
 B6k (l:= [reI]) (l2:= [reI]) (A4X _ rfl _ _ zh C3e (by rw [U5];exact D3B))
theorem B9r(p q:Fn)(h:Abs.Pure Tryz.prog 22 [.agg p.row,.fn 33 []] (.agg q.row)):Abs.Pure Tryz.prog 13 [.agg p.row] (.agg q.row):=by
 have c:=Fn.row_sub C7 p
 have a:=Fn.row_sub C7 q
 obtain⟨b,o⟩:=B4 p
 obtain⟨e,d⟩:=B4 q
 refine Pure.of 0 (A0.enter A7i Jk (Run.go 100 ?_))
 exact JN
theorem B6y(p q:Fn)(h:Abs.Pure Tryz.prog 22 [.agg p.row,.fn 26 []] (.agg q.row)):Abs.Pure Tryz.prog 12 [.agg p.row] (.agg q.row):=by
 have c:=Fn.row_sub C7 p
 have a:=Fn.row_sub C7 q
 obtain⟨b,o⟩:=B4 p
 obtain⟨e,d⟩:=B4 q
 refine Pure.of 0 (A0.enter A6a Jk (Run.go 100 ?_))
 exact JN
theorem C4Y:Abs.Pure Tryz.prog 13 [.agg (H5 [reR,stR,reR])] (.agg (H5 [reR])):=by
 have h:=B9r _ _ (A4X _ rfl [reI,stI,reI] [reI] zh C7Z (by rw [U5,U5];exact D3e))
 rw [U5,U5]at h
 exact h
theorem C8m:Abs.Pure Tryz.prog 13 [.agg (H5 [reR])] (.agg (H5 [reR])):=by
 have h:=B9r _ _ (A4X _ rfl [reI] [reI] zh C3e (by rw [U5];exact D0F))
 rw [U5]at h
 exact h
theorem D7U:Abs.Pure Tryz.prog 26 [.agg bF.row] (.agg (A3P [stI,reI]).row):=by
 have h:=B1F bF ⟨by decide,.inr rfl,by decide,(fun v d=>by cases d),by decide⟩ zh (B9n _ zh) (fun q f=>by cases f) zh zh zh
 have g:I9 bF 0=true:=by
  unfold I9
  rw [show bF.code[0]? =some ⟨1,1,1,0,0⟩ from rfl]
  simp [show A4o bF.code 0=true by decide]
 have a:I9 bF 1=false:=by unfold I9;rw [show bF.code[1]? =some stI from rfl];simp [stI]
 have b:I9 bF 2=false:=by unfold I9;rw [show bF.code[2]? =some reI from rfl];simp [reI]
 have e:E4 bF=A3P [stI,reI]:=by
  unfold E4 E6
  have c:F0 (I9 bF) bF.code bF.code.length= [stI,reI]:=by
   show F0 (I9 bF) [⟨1,1,1,0,0⟩,stI,reI] 3=_
   simp [F0,g,a,b]
  rw [c]
  rfl
 rwa [e]at h
theorem D6S:Abs.Pure Tryz.prog 26 [.agg c1F.row] (.agg c1F.row):=by
 have h:=B1F c1F ⟨by decide,.inr rfl,by decide,(fun v b=>by cases b),by decide⟩ zh (B9n _ zh) (fun q c=>by cases c) zh zh zh
 have g:I9 c1F 0=false:=by unfold I9;rw [show c1F.code[0]? =some reI from rfl];simp [reI]
 have e:E4 c1F=c1F:=by
  unfold E4 E6
  have a:F0 (I9 c1F) c1F.code c1F.code.length= [reI]:=by
   show F0 (I9 c1F) [reI] 1=_
   simp [F0,g]
  rw [a]
  rfl
 rwa [e]at h
theorem C8Z:Abs.Pure Tryz.prog 12 [.agg (H5 [i5 1 1 1 0 0,stR,reR])] (.agg (H5 [stR,reR])):=by
 have h:=B6y _ _ (A4X _ rfl [⟨1,1,1,0,0⟩,stI,reI] [stI,reI] zh D6s D7U)
 rw [U5,U5]at h
 exact h
theorem C6N:Abs.Pure Tryz.prog 12 [.agg (H5 [reR])] (.agg (H5 [reR])):=by
 have h:=B6y _ _ (A4X _ rfl [reI] [reI] zh C3e D6S)
 rw [U5]at h
 exact h
def B1k:Fn:=⟨[],0,0,false,0,[],[],[],[],[],[]⟩
def B4T:List V:= [.str [],.int .i64 0,.int .i64 0,.bool false,.int .i64 0,.isl [],.isl [],.isl [],.isl [],.isl [],.isl []]
theorem B7w:B1k.row=B4T:=by rw [Fn.row_eq];rfl
theorem C5H:B1k.bd:=by
 intro q h
 rw [Fn.each_eq]at h
 obtain rfl:q=B1k:=by simpa [B1k,Fn.eachs]using h
 exact⟨Nat.zero_le _,Nat.zero_le _,Nat.zero_le _,Nat.zero_le _,Nat.zero_le _,Nat.zero_le _⟩
theorem C4N:Abs.Pure Tryz.prog 56 [.agg (H5 [reR,stR,reR])] (.int .i64 0):=by
 have h:=A5Z cF (B9n _ zh) (B7T _)
 rw [C7Z]at h
 unfold cF at h
 rw [U5]at h
 exact h
theorem D0B:Abs.Pure Tryz.prog 56 [.agg B4T] (.int .i64 4):=by
 have h:=A5Z B1k C5H (by decide+kernel)
 rw [show L5 B1k=4 by decide+kernel,B7w]at h
 exact h
theorem C6q:Abs.Pure Tryz.prog 36 [.agg (H5 [reR,stR,reR])] (.tup [.isl [],.int .i64 0,.int .i64 0]):=by
 refine Pure.of 0 (A0.enter A3f Jk (Run.go 100 ?_))
 have h:(H5 [reR,stR,reR]).map (V.sub C7)=H5 [reR,stR,reR]:=rfl
 have b:=C4N
 have c:=C9H
 have a:(H5 [reR,stR,reR]).length=11:=rfl
 have o:(H5 [reR,stR,reR]).take 11=H5 [reR,stR,reR]:=rfl
 generalize H5 [reR,stR,reR]=r at*
 simp -implicitDefEqProofs only [go_sem,A4,a,o]
 refine A0.pureF b zC ?_
 simp -implicitDefEqProofs only [go_sem,a,o]
 refine A0.pure c zC ?_
 simp -implicitDefEqProofs only [go_sem,a,o]
def D7T:Q9:=C1u [
 (56,[.agg (H5 [reR,stR,reR])],.int .i64 0),
 (56,[.agg B4T],.int .i64 4),
 (36,[.agg (H5 [reR,stR,reR])],.tup [.isl [],.int .i64 0,.int .i64 0]),
 (10,[.agg (H5 [reR,stR,reR])],.agg (H5 [reR,stR,reR])),
 (10,[.agg (H5 [reR])],.agg (H5 [reR])),
 (13,[.agg (H5 [reR,stR,reR])],.agg (H5 [reR])),
 (13,[.agg (H5 [reR])],.agg (H5 [reR])),
 (12,[.agg (H5 [reR])],.agg (H5 [reR])),
 (15,[.agg (H5 [reR,stR,reR]),.agg (H5 [reR])],.bool false),
 (15,[.agg (H5 [reR]),.agg (H5 [reR])],.bool true)] C1H
theorem C5j:N9 Tryz.prog D7T:=C1v (fun e h=>by
 simp only [List.mem_cons,List.not_mem_nil,or_false]at h
 rcases h with rfl|rfl|rfl|rfl|rfl|rfl|rfl|rfl|rfl|rfl
 ·exact⟨C4N,rfl⟩
 ·exact⟨D0B,rfl⟩
 ·exact⟨C6q,rfl⟩
 ·exact⟨D0U,rfl⟩
 ·exact⟨C8O,rfl⟩
 ·exact⟨C4Y,rfl⟩
 ·exact⟨C8m,rfl⟩
 ·exact⟨C6N,rfl⟩
 ·exact⟨D1s,rfl⟩
 ·exact⟨C9G,rfl⟩) B2G
theorem D1h:Abs.Pure Tryz.prog 6 [.agg (H5 [reR,stR,reR])] (.tup [.agg (H5 [reR]),.int .i64 0]):=
 Pure.execB (m:=20000) (d:=20) (fr:=1) A2x C5j zj
theorem D1i:Abs.Pure Tryz.prog 6 [.agg B4T] (.tup [.agg B4T,.int .i64 4]):=
 Pure.execB (m:=20000) (d:=20) (fr:=1) A2x C5j zj
end
section
open Go.Abs
inductive ChJ (code:List Ins):(Int→Bool)→Nat→Nat→Prop
 |stop {S:Int→Bool} {a:Nat} {i:Ins}:code[a]? =some i→(i.op≠14∨Y5 S a i.b=true)→ChJ code S a a
 |go {S:Int→Bool} {a e:Nat} {i:Ins} {b:Nat}:code[a]? =some i→i.op=14→i.b=(b:Int)→Y5 S a b=false→ChJ code (Y5 S a) b e→ChJ code S a e
theorem ChJ.eq{code:List Ins}{S:Int→Bool}{a e:Nat}(h:ChJ code S a e):S a=false→chZ code (unZ S code.length) S a=e:=by
 induction h with
 | @stop S a i d k=>
  intro g
  have f:=(List.getElem?_eq_some_iff.1 d).1
  rw [←B2b g f,chZ,d]
  dsimp only
  by_cases c:i.op=14
  ·rw [if_pos c,if_pos (k.resolve_left fun h=>h c)]
  ·rw [if_neg c]
 | @go S a e i b d l n j h m=>
  intro g
  have f:=(List.getElem?_eq_some_iff.1 d).1
  rw [←B2b g f,chZ,d]
  dsimp only
  rw [if_pos l,n,if_neg (by rw [j];decide),Int.toNat_natCast]
  exact m j
theorem ChJ.ex{code:List Ins}(i:InJ code): ∀(f:Nat) (S:Int→Bool) (a:Nat),unZ S code.length=f→a<code.length→S a=false→ ∃e,ChJ code S a e
 |0,S,a,hf,ha,hs=>by have:=B2b hs ha;omega
 | f+1,S,a,hf,ha,hs=>by
  have h:code[a]? =some (code[a]'ha):=by simp
  by_cases c:(code[a]'ha).op=14
  ·by_cases d:Y5 S a (code[a]'ha).b=true
   ·exact⟨a,.stop h (.inr d)⟩
   ·obtain⟨l,j⟩:=i (code[a]'ha) zf (by simp [G9,c])
    obtain⟨t,g⟩: ∃t:Nat,(code[a]'ha).b=t:=⟨(code[a]'ha).b.toNat,by omega⟩
    rw [g]at d j
    have b:Y5 S a t=false:=by cases e:Y5 S a t with|true=>exact(d e).elim|false=>rfl
    have:=B2b hs ha
    obtain⟨e,k⟩:=ChJ.ex i f (Y5 S a) t zd zd b
    exact⟨e,.go h c g b k⟩
  ·exact⟨a,.stop h (.inl c)⟩
theorem ChJ.less{code:List Ins}{S:Int→Bool}{a e:Nat}(h:ChJ code S a e): ∀{T:Int→Bool},(∀z,T z=true→S z=true)→(∀i,code[e]? =some i→i.op=14→Y5 T a i.b=true)→ChJ code T a e:=by
 induction h with
 | @stop S a i d p=>
  intro T k g
  refine .stop d ?_
  by_cases c:i.op=14
  ·exact .inr (g i d c)
  ·exact .inl c
 | @go S a e i b d j o m h n=>
  intro T k g
  have l: ∀z,Y5 T a z=true→Y5 S a z=true:=fun z f=>by
   unfold Y5 at f⊢
   simp only [Bool.or_eq_true]at f⊢
   exact f.imp (k z) id
  refine .go d j o ?_ (n l fun i d j=> ?_)
  ·cases f:Y5 T a b with
   |false=>rfl
   |true=>rw [l _ f]at m;cases m
  ·have:=g i d j
   show (Y5 T a i.b||_)=true
   rw [this];rfl
theorem ChJ.mid{code:List Ins}{S:Int→Bool}{a e y:Nat}{i:Ins}(h:ChJ code S a e)(f:code[e]? =some i)(o:i.op=14)(q:i.b=(y:Int)):S y=false→ ∃T,ChJ code T y e:=by
 induction h with
 | @stop S a j d n=>
  intro m
  rw [f]at d
  obtain rfl:=Option.some.inj d
  have l:=n.resolve_left fun h=>h o
  rw [q]at l
  unfold Y5 at l
  rw [m,Bool.false_or,decide_eq_true_eq]at l
  obtain rfl:y=a:=by omega
  exact⟨S,.stop f n⟩
 | @go S a e j b d k g r h p=>
  intro m
  by_cases c:y=a
  ·subst c;exact⟨S,.go d k g r h⟩
  ·refine p f ?_
   unfold Y5
   rw [m,decide_eq_false zd];rfl
theorem ChJ.mem{code:List Ins}{S:Int→Bool}{a e:Nat}(h:ChJ code S a e): ∃i,code[e]? =some i:=by
 induction h with
 |stop c=>exact⟨_,c⟩
 |go _ _ _ _ _ b=>exact b
def noZ:Int→Bool:=fun _=>false
theorem D3l{code:List Ins}(c:InJ code){a:Nat}(b:a<code.length): ∃e:Nat,B9y code a=e∧ChJ code noZ a e:=by
 obtain⟨e,h⟩:=ChJ.ex c _ noZ a rfl b rfl
 exact⟨e,h.eq rfl,h⟩
theorem C6C{code:List Ins}(m:InJ code){i:Ins}(q:i∈code):O0 (code.map (O0 code)) (O0 code i)=O0 code i:=by
 by_cases c:G9 i.op=true∧i.op≠26
 ·obtain⟨u,w⟩:=m i q c.1
  obtain⟨e,t,f⟩:=D3l m (a:=i.b.toNat) zd
  have l:O0 code i={i with b:=(e:Int)}:=by unfold O0;rw [if_pos c,t]
  have o:B9y (code.map (O0 code)) e=e:=by
   obtain⟨j,h⟩:=f.mem
   have g:(code.map (O0 code))[e]? =some (O0 code j):=by rw [List.getElem?_map,h];rfl
   refine ChJ.eq (S:=noZ) (.stop g ?_) rfl
   by_cases d:j.op=14
   ·right
    obtain⟨B,v⟩:=m j (List.mem_of_getElem? h) (by simp [G9,d])
    obtain⟨y,k⟩: ∃y:Nat,j.b=y:=⟨j.b.toNat,by omega⟩
    obtain⟨T,r⟩:=f.mid h d k rfl
    have A:=(r.less (T:=noZ) (fun z p=>by cases p) (fun x n _=>by
     rw [h]at n
     obtain rfl:=Option.some.inj n
     rw [k];unfold Y5;simp)).eq rfl
    have s:O0 code j={j with b:=(e:Int)}:=by
     unfold O0
     rw [if_pos ⟨by simp [G9,d],by omega⟩,k,Int.toNat_natCast]
     congr 1
    rw [s]
    unfold Y5;simp
   ·left
    unfold O0
    split<;>exact d
  rw [l]
  unfold O0
  rw [if_pos c]
  dsimp only
  rw [Int.toNat_natCast]
  exact congrArg (fun z=>{i with b:=z}) o
 ·have l:O0 code i=i:=by unfold O0;rw [if_neg c]
  rw [l]
  unfold O0;rw [if_neg c]
theorem C3F{p:Fn}(a:InJ p.code):C8 (C8 p)=C8 p:=by
 unfold C8
 dsimp only
 rw [List.map_map,List.map_congr_left (f:=O0 (p.code.map (O0 p.code))∘O0 p.code) (g:=O0 p.code) fun i h=>C6C a h]
theorem C7p{p q:Fn}(h:p.ups=q.ups):L8 p=L8 q:=by unfold L8;rw [h]
theorem C8p{g:Fn→Fn}(h: ∀q,(g q).ups=q.ups)(p:Fn):(C0 g p).ups=p.ups:=by
 rw [X0]
 dsimp only
 split
 ·exact h p
 ·rfl
theorem C0X{g:Fn→Fn}(h: ∀q,(g q).ups=q.ups)(l:List Fn):(l.map (C0 g)).map L8=l.map L8:=by
 rw [List.map_map];exact List.map_congr_left fun q _=>C7p (C8p h q)
theorem C6f(p:Fn):C0 C8 (C0 C8 p)=C0 C8 p:=by
 induction p using Fn.ind with
 | h p i=>
  have d:=C0X (g:=C8) (fun q=>rfl) p.protos
  have a:(p.protos.map (C0 C8)).map (C0 C8)=p.protos.map (C0 C8):=by
   rw [List.map_map];exact List.map_congr_left i
  by_cases c:L5 (G1 p)=0
  ·have e:C0 C8 p={C8 p with protos:=p.protos.map (C0 C8)}:=by rw [X0,if_pos c]
   rw [e,X0]
   dsimp only
   rw [a]
   split
   ·have:=C3F (D3x c)
    have f:(p.code.map (O0 p.code)).map (O0 (p.code.map (O0 p.code)))=p.code.map (O0 p.code):=congrArg Fn.code this
    unfold C8
    dsimp only
    rw [f]
   ·rfl
  ·have e:C0 C8 p={p with protos:=p.protos.map (C0 C8)}:=by rw [X0,if_neg c]
   have b:G1 {p with protos:=p.protos.map (C0 C8)}=G1 p:=by unfold G1;dsimp only;rw [d]
   rw [e,X0,b,if_neg c,a]
theorem Fn.eta(p:Fn):(⟨p.name,p.line,p.params,p.vararg,p.regs,p.code,p.lines,p.consts,p.protos,p.ups,p.vars⟩:Fn)=p:=by cases p;rfl
mutual
def Fn.wt:Fn→Nat
 |⟨_,_,_,_,_,code,_,_,l,_,v⟩=>code.length+v.length+Fn.wtL l
def Fn.wtL:List Fn→Nat
 | []=>0
 |q::r=>Fn.wt q+Fn.wtL r
end
theorem Fn.wt_eq(p:Fn):p.wt=p.code.length+p.vars.length+Fn.wtL p.protos:=by
 obtain⟨a,b,c,d,e,f,g,h,i,j,k⟩:=p
 rw [Fn.wt]
theorem C1K{gone:Nat→Bool}: ∀{n:Nat},F6 gone n=n→ ∀k,k<n→gone k=false
 |0,_,k,hk=>absurd hk (Nat.not_lt_zero k)
 | n+1,h,k,hk=>by
  rw [F6]at h
  have:=A8p gone n
  split at h
  ·omega
  ·rename_i c
   rcases Nat.lt_or_ge k n with a|a
   ·exact C1K zd k a
   ·obtain rfl:k=n:=by omega
    simpa using c
theorem B5w{gone:Nat→Bool}{n:Nat}(h: ∀k,k<n→gone k=false): ∀{k:Nat},k≤n→F6 gone k=k
 |0,_=>rfl
 |k+1,hk=>by rw [F6,B5w h zd,h k zd];rfl
theorem B6m{α:Type}{gone:Nat→Bool}{n:Nat}(h: ∀k,k<n→gone k=false){l:List α}: ∀{k:Nat},k≤n→k≤l.length→F0 gone l k=l.take k
 |0,_,_=>by simp [F0]
 |k+1,hk,hl=>by
  have a:l[k]? =some (l[k]' zd):=by simp
  rw [A5b a (h k zd),B6m h zd zd,List.take_add_one,a];rfl
theorem B8M(gone:Nat→Bool)(p:Fn):(E6 gone p).code.length≤p.code.length∧(E6 gone p).vars.length≤p.vars.length:=by
 constructor
 ·exact Ym
 ·exact YK
theorem C6X{gone:Nat→Bool}{p:Fn}(h:RemOK p)(b:(E6 gone p).code.length=p.code.length)(h2:(E6 gone p).vars.length=p.vars.length):E6 gone p=p:=by
 have b:((F0 gone p.code p.code.length).map (n8 gone)).length=p.code.length:=b
 rw [List.length_map,A0x _ _ _ (Nat.le_refl _)]at b
 have a:=C1K b
 have g:F0 gone p.code p.code.length=p.code:=by rw [B6m a (Nat.le_refl _) (Nat.le_refl _),List.take_length]
 have k:(F0 gone p.code p.code.length).map (n8 gone)=p.code:=by
  rw [g]
  refine(List.map_congr_left fun i j=> ?_).trans (List.map_id _)
  unfold n8
  split
  ·rename_i l
   have:=h.jumps i j l
   rw [B5w a zd,Int.toNat_of_nonneg this.1]
   rfl
  ·rfl
 have f:(if p.lines.length=0 then []else F0 gone p.lines p.code.length)=p.lines:=by
  split
  ·rename_i c;exact(List.length_eq_zero_iff.1 c).symm
  ·rename_i c
   have f:=h.lines.resolve_right c
   rw [B6m a (Nat.le_refl _) zd,←f,List.take_length]
 have d:(p.vars.map (A7a gone)).filter B7c=p.vars:=by
  have e:p.vars.map (A7a gone)=p.vars:=by
   refine(List.map_congr_left fun v d=> ?_).trans (List.map_id _)
   have:=h.vars v d
   unfold A7a
   rw [B5w a zd,B5w a zd,Int.toNat_of_nonneg this.1.1,Int.toNat_of_nonneg this.2.1]
   rfl
  have h2:((p.vars.map (A7a gone)).filter B7c).length=p.vars.length:=h2
  rw [e]at h2⊢
  rw [List.filter_eq_self]
  exact List.length_filter_eq_length_iff.1 h2
 unfold E6
 rw [k,f,d]
 exact p.eta
structure Cut(g:Fn→Fn):Prop where
 ups: ∀q,(g q).ups=q.ups
 code: ∀q,(g q).code.length≤q.code.length
 vars: ∀q,(g q).vars.length≤q.vars.length
 id: ∀q,L5 (G1 q)=0→(g q).code.length=q.code.length→(g q).vars.length=q.vars.length→g q=q
theorem B5Q{gone:Fn→Nat→Bool}{g:Fn→Fn}(h: ∀q,g q=E6 (gone q) q):Cut g where
 ups q:=by rw [h];rfl
 code q:=by rw [h];exact(B8M _ _).1
 vars q:=by rw [h];exact(B8M _ _).2
 id q hc h1 h2:=by rw [h]at h1 h2⊢;exact C6X (B6N hc) h1 h2
theorem Cut.wt{g:Fn→Fn}(a:Cut g)(p:Fn):(C0 g p).wt≤p.wt∧((C0 g p).wt=p.wt→C0 g p=p):=by
 induction p using Fn.ind with
 | h p n=>
  have k: ∀l:List Fn,(∀q∈l,(C0 g q).wt≤q.wt∧((C0 g q).wt=q.wt→C0 g q=q))→Fn.wtL (l.map (C0 g))≤Fn.wtL l∧(Fn.wtL (l.map (C0 g))=Fn.wtL l→l.map (C0 g)=l):=by
   intro l
   induction l with
   |nil=>exact fun _=>⟨Nat.le_refl _,fun _=>rfl⟩
   |cons q r i=>
    intro h
    obtain⟨t,m⟩:=h q List.mem_cons_self
    obtain⟨u,j⟩:=i fun x f=>h x (List.mem_cons_of_mem _ f)
    rw [List.map_cons,Fn.wtL,Fn.wtL]
    exact⟨by omega,fun e=>by rw [m zd,j zd]⟩
  obtain⟨v,b⟩:=k p.protos n
  rw [X0]
  by_cases c:L5 (G1 p)=0
  ·rw [if_pos c,Fn.wt_eq,Fn.wt_eq p]
   dsimp only
   have s:=a.code p
   have o:=a.vars p
   refine⟨by omega,fun e=> ?_⟩
   have d:=a.id p c zd zd
   rw [d,b zd]
   exact p.eta
  ·rw [if_neg c,Fn.wt_eq,Fn.wt_eq p]
   dsimp only
   exact⟨by omega,fun e=>by rw [b zd];exact p.eta⟩
theorem C8P(p:Fn):(C0 C8 p).wt=p.wt:=by
 induction p using Fn.ind with
 | h p b=>
  have a: ∀l:List Fn,(∀q∈l,(C0 C8 q).wt=q.wt)→Fn.wtL (l.map (C0 C8))=Fn.wtL l:=by
   intro l
   induction l with
   |nil=>exact fun _=>rfl
   |cons q r i=>
    intro h
    rw [List.map_cons,Fn.wtL,Fn.wtL,h q List.mem_cons_self,i fun x d=>h x (List.mem_cons_of_mem _ d)]
  rw [X0]
  by_cases c:L5 (G1 p)=0
  ·rw [if_pos c,Fn.wt_eq,Fn.wt_eq p]
   show (p.code.map _).length+p.vars.length+Fn.wtL (p.protos.map _)=_
   rw [List.length_map,a _ b]
  ·rw [if_neg c,Fn.wt_eq,Fn.wt_eq p]
   dsimp only
   rw [a _ b]
theorem C8k:Cut G2:=B5Q (gone:=fun p k=> !A0P p.code k) fun _=>rfl
theorem C5Y:Cut E4:=B5Q (gone:=I9) fun _=>rfl
noncomputable def N6 (p:Fn):Fn:=C0 E4 (C0 G2 (C0 C8 p))
noncomputable def muF (p:Fn):Nat:=by
 classical exact 2*p.wt+if C0 C8 p=p then 0 else 1
theorem B4c{p:Fn}(h:p≠N6 p):muF (N6 p)<muF p:=by
 unfold muF
 have j:=C8P p
 obtain⟨n,d⟩:=C8k.wt (C0 C8 p)
 obtain⟨i,m⟩:=C5Y.wt (C0 G2 (C0 C8 p))
 have l:(N6 p).wt≤p.wt:=by unfold N6;omega
 rcases Nat.lt_or_ge (N6 p).wt p.wt with f|f
 ·split<;>split<;>omega
 ·have b:(N6 p).wt=p.wt:=by omega
  have k:(C0 E4 (C0 G2 (C0 C8 p))).wt=p.wt:=b
  have c:=d zd
  have a:=m zd
  have g:N6 p=C0 C8 p:=by unfold N6;rw [a,c]
  rw [g]at h⊢
  rw [if_pos (C6f p),if_neg fun e=>h e.symm,j]
  omega
end
section
open Go.Abs
attribute [local irreducible] A0 Run
inductive Sh:Fn→Fn→Prop
 |mk {a b:Fn}:a.name=b.name→a.params=b.params→a.regs=b.regs→a.code.length≤b.code.length→a.lines.length≤b.lines.length→a.vars.length≤b.vars.length→a.consts=b.consts→a.ups=b.ups→
  a.protos.length=b.protos.length→(∀(k:Nat) (x y:Fn),a.protos[k]? =some x→b.protos[k]? =some y→Sh x y)→Sh a b
theorem Sh.refl(p:Fn):Sh p p:=by
 induction p using Fn.ind with
 |h p i=>
  refine .mk rfl rfl rfl (Nat.le_refl _) (Nat.le_refl _) (Nat.le_refl _) rfl rfl rfl fun k x y b a=> ?_
  rw [b]at a
  obtain rfl:=Option.some.inj a
  exact i x (List.mem_of_getElem? b)
theorem Sh.trans{a b c:Fn}(h:Sh a b):Sh b c→Sh a c:=by
 induction h generalizing c with
 | @mk a b l v r y m w C o s g E=>
  rintro⟨D,n,p,i,j,q,t,B,u,d⟩
  refine .mk (l.trans D) (v.trans n) (r.trans p) (Nat.le_trans y i) (Nat.le_trans m j) (Nat.le_trans w q) (C.trans t) (o.trans B) (s.trans u) fun k x z f A=> ?_
  have F:=(List.getElem?_eq_some_iff.1 f).1
  have e:b.protos[k]? =some (b.protos[k]' zd):=by simp
  exact E k x _ f e (d k _ z e A)
theorem D6a{p:Fn}(h:p.Le)(b: ∀q∈p.protos,q.bd):p.bd:=by
 exact XZ
theorem Sh.bd{a b:Fn}(h:Sh a b):b.bd→a.bd:=by
 induction h with
 | @mk a b r x t z s y m j v g n=>
  intro c
  obtain⟨w,p,e,A,f,o⟩:=c.self
  refine D6a ⟨by omega,by omega,by rw [m];exact e,by omega,by rw [j];exact f,by omega⟩ fun q i=> ?_
  obtain⟨k,u,l⟩:=List.getElem_of_mem i
  have d:b.protos[k]? =some (b.protos[k]' zd):=by simp
  exact n k q _ (by rw [←l];simp) d (c.child (List.mem_of_getElem? d))
theorem C5y: ∀{l m:List Fn},l.length=m.length→(∀(k:Nat) (x y:Fn),l[k]? =some x→m[k]? =some y→x.tot≤y.tot)→Fn.totL l≤Fn.totL m
 | [],[],_,_=>Nat.le_refl _
 | [],_::_,h,_=>by cases h
 |_::_,[],h,_=>by cases h
 |x::l,y::m,h,hx=>by
  rw [Fn.totL,Fn.totL]
  have c:=hx 0 x y rfl rfl
  have d:=C5y (l:=l) (m:=m) zx fun k u v a b=>hx (k+1) u v zA zz
  omega
theorem Sh.tot{a b:Fn}(h:Sh a b):a.tot≤b.tot:=by
 induction h with
 | @mk a b f k m n g e j l c d i=>
  rw [Fn.tot_eq,Fn.tot_eq b]
  have:=C5y c i
  omega
theorem B9t{g:Fn→Fn}(l: ∀p:Fn,(g p).name=p.name∧(g p).params=p.params∧(g p).regs=p.regs∧(g p).code.length≤p.code.length∧(g p).lines.length≤p.lines.length∧(g p).vars.length≤p.vars.length∧(g p).consts=p.consts∧(g p).ups=p.ups)(p:Fn):Sh (C0 g p) p:=by
 induction p using Fn.ind with
 | h p m=>
  have a: ∀(k:Nat) (x y:Fn),(p.protos.map (C0 g))[k]? =some x→p.protos[k]? =some y→Sh x y:=fun k x y b c=>by
   rw [List.getElem?_map,c]at b
   obtain rfl:=Option.some.inj b
   exact m y (List.mem_of_getElem? c)
  rw [X0]
  split
  ·obtain⟨e,j,d,i,o,n,q,f⟩:=l p
   exact .mk e j d i o n q f (List.length_map ..) a
  ·exact .mk rfl rfl rfl (Nat.le_refl _) (Nat.le_refl _) (Nat.le_refl _) rfl rfl (List.length_map ..) a
theorem A4P(gone:Nat→Bool)(p:Fn):(E6 gone p).code.length≤p.code.length∧(E6 gone p).lines.length≤p.lines.length∧(E6 gone p).vars.length≤p.vars.length:=by
 refine⟨?_,?_,?_⟩
 ·exact Ym
 ·show (if p.lines.length=0 then []else F0 gone p.lines p.code.length).length≤_
  split
  ·exact Nat.zero_le _
  ·refine Nat.le_trans (B3F gone p.lines p.code.length).length_le ?_
   simp;omega
 ·exact YK
end
section
open Go.Abs
attribute [local irreducible] A0 Run
abbrev soN(k:Nat):Nat:=45*10000+k
-- EV: soN
attribute [local go_sem] soN
def A9Q(p:Fn):Fn:={p with protos:=p.protos.map A0U}
theorem C2q(p:Fn)(f:p.protos.length≤100000)(j:(A9Q p).bd)(g:(A9Q p).each.length≤1000000):Pure Tryz.prog 45 [.agg p.row] (.bool (decide (L5 (A9Q p)=0))):=by
 have a:(A9Q p).row= [.str p.name,.int .i64 p.line,.int .i64 p.params,.bool p.vararg,.int .i64 p.regs,.isl (p.code.map Ins.row),.isl (p.lines.map D1),.isl (p.consts.map Kst.row),.isl ((p.protos.map A0U).map Fn.row),.isl (p.ups.map Upv.row),.isl (p.vars.map Vr.row)]:=by rw [Fn.row_eq];rfl
 have b:=C2Z p.protos f
 have h:=B1g (A9Q p) j g
 have e:=Fn.row_sub C7 (A9Q p)
 have d:=Fn.rows_sub C7 p.protos
 have i:=Fn.rows_sub C7 (p.protos.map A0U)
 rw [a]at h e
 rw [Fn.row_eq]
 generalize L5 (A9Q p)=z at*
 generalize (p.protos.map A0U).map Fn.row=B at*
 generalize p.protos.map Fn.row=P at*
 generalize p.code.map Ins.row=C at*
 generalize p.lines.map D1=l at*
 generalize p.consts.map Kst.row=K at*
 generalize p.ups.map Upv.row=u at*
 generalize p.vars.map Vr.row=v at*
 refine Pure.of 0 (A0.enter A2p Jk (Run.go 100 ?_))
 refine QM ?_
 refine A0.pureF b zS ?_
 refine QL ?_
 refine A0.pureF h (by simp -implicitDefEqProofs only [go_sem];simpa [V.sub,K0]using e) ?_
 by_cases c:z=0
 ·exact zJ
 ·have k:=eq_false c
  simp -implicitDefEqProofs only [go_sem,k]
end
section
open Go.Abs
def UpF(q:Fn):Prop:=q.ups.length≤60∧(∀u∈q.ups,0≤u.idx∧u.name.length≤40)∧q.lines.length≤100000∧q.consts.length≤100000∧q.vars.length≤100000
def B5F(p:Fn):Prop:= ∀q∈p.each,UpF q
theorem B5F.child{p q:Fn}(h:B5F p)(b:q∈p.protos):B5F q:=fun x a=>h x (Fn.each_trans p q (Fn.child_mem p.self_mem b) x a)
theorem B5F.of{p:Fn}(h:UpF p)(b: ∀q∈p.protos,B5F q):B5F p:=by
 exact XZ
theorem Sh.upsF{a b:Fn}(h:Sh a b):B5F b→B5F a:=by
 induction h with
 | @mk a b p w s y r x m g v e o=>
  intro c
  refine B5F.of (by obtain⟨l,j,z,n,t⟩:=c b b.self_mem;unfold UpF;rw [g,m];exact⟨l,j,by omega,n,by omega⟩) fun q f=> ?_
  obtain⟨k,u,i⟩:=List.getElem_of_mem f
  have d:b.protos[k]? =some (b.protos[k]' zd):=by simp
  exact o k q _ (by rw [←i];simp) d (c.child (List.mem_of_getElem? d))
theorem D4F{p:Fn}(h:L5 p=0):B5F p:=by
 intro q i
 obtain⟨g,e,_⟩:=A7M (((A9T p).1 h).2 q i)
 unfold A3Q at g
 unfold f8 at e
 split at g
 ·rename_i a
  split at e
  ·rename_i b
   obtain⟨k,m,_,j,l,_,_,f,_⟩:=a
   obtain⟨_,_,_,_,_,n,_,c,_,_⟩:=b
   rw [List.any_eq_false]at f c
   exact⟨j,fun u d=>⟨by have:=c u d;simp at this;omega,by have:=f u d;simp at this;omega⟩,by omega,by omega,by omega⟩
  ·omega
 ·omega
theorem C1s{r:Int}{u:List Upv}(b:0≤r)(d:r≤4096)(i:u.length≤60)(h2: ∀x∈u,0≤x.idx∧x.name.length≤40):A3b ⟨[],0,0,false,r,[⟨18,0,0,0,0⟩],[],[],[],u,[]⟩=0:=by
 have g:A3Q ⟨[],0,0,false,r,[⟨18,0,0,0,0⟩],[],[],[],u,[]⟩=0:=by
  refine if_pos ⟨(by decide:(1:Nat)≤16384),Nat.zero_le _,Nat.zero_le _,i,Nat.zero_le _,d,Nat.zero_le _,?_,rfl⟩
  rw [List.any_eq_false]
  intro x a
  have:=(h2 x a).2
  simp;omega
 have e:f8 ⟨[],0,0,false,r,[⟨18,0,0,0,0⟩],[],[],[],u,[]⟩=0:=by
  refine if_pos ⟨(by decide:(1:Nat)≠0),b,Int.le_refl 0,Int.le_refl 0,b,.inl rfl,rfl,?_,rfl,rfl⟩
  rw [List.any_eq_false]
  intro x a
  have:=(h2 x a).1
  simp;omega
 have f:R4 ⟨[],0,0,false,r,[⟨18,0,0,0,0⟩],[],[],[],u,[]⟩ ⟨18,0,0,0,0⟩=0:=by
  unfold R4
  have c:(-1:Int)≤r:=by omega
  rw [if_neg zh,show reads ⟨18,0,0,0,0⟩=([], -1) by decide,show C6 ⟨18,0,0,0,0⟩=([], -1) by decide]
  exact if_pos ⟨by simp [V0,c],by simp [V0,c],fun h=>absurd h zh,by unfold Z8;simp [G7]⟩
 unfold A3b
 rw [if_neg (by rw [g];decide),if_neg (by rw [e];decide)]
 simp only [List.map_cons,List.map_nil,f,J5]
 simp
theorem C9J{p:Fn}{l m:List Fn}(h:l.length=m.length)(c:l.any (B9l p)=m.any (B9l p)):A3b {p with protos:=l}=A3b {p with protos:=m}:=by
 have a:A3Q {p with protos:=l}=A3Q {p with protos:=m}:=by unfold A3Q;simp only [h]
 have e:f8 {p with protos:=l}=f8 {p with protos:=m}:=rfl
 have b:R4 {p with protos:=l}=R4 {p with protos:=m}:=by
  funext i
  unfold R4 Z8
  simp only [h]
 unfold A3b
 rw [a,e]
 show (if _ then _ else if _ then _ else if J5 (p.code.map (R4 {p with protos:=l}))≠0 then J5 (p.code.map (R4 {p with protos:=l}))else if l.any (B9l p)=true then 4 else 0)=(if _ then _ else if _ then _ else if J5 (p.code.map (R4 {p with protos:=m}))≠0 then J5 (p.code.map (R4 {p with protos:=m}))else if m.any (B9l p)=true then 4 else 0)
 rw [b,c]
theorem B6c: ∀{l:List Fn},(∀q∈l,q.protos= [])→Fn.depths l≤1
 | [],_=>by simp [Fn.depths]
 |q::r,h=>by
  rw [Fn.depths,Fn.depth_eq,h q List.mem_cons_self]
  have:=B6c (l:=r) fun x a=>h x (List.mem_cons_of_mem _ a)
  have b:Fn.depths []=0:=by rw [Fn.depths]
  omega
theorem C6v{p x:Fn}{l:List Fn}(h: ∀q∈l,q.protos= [])(a:x∈({p with protos:=l}:Fn).each):x={p with protos:=l}∨x∈l:=by
 rw [Fn.each_eq]at a
 refine(List.mem_cons.1 a).imp id fun a=> ?_
 obtain⟨q,b,a⟩:=Fn.mem_eachs.1 a
 rw [Fn.each_eq,h q b]at a
 rcases List.mem_cons.1 a with rfl|a
 ·exact b
 ·cases a
theorem C0H{p:Fn}{l:List Fn}(h: ∀q∈l,q.protos= []∧A3b q=0):L5 {p with protos:=l}=0↔A3b {p with protos:=l}=0:=by
 rw [A9T,Fn.depth_eq]
 have e:=B6c fun q b=>(h q b).1
 refine⟨fun c=>c.2 _ (Fn.self_mem _),fun d=>⟨Nat.le_trans (Nat.add_le_add_right e 1) zh,fun x a=> ?_⟩⟩
 rcases C6v (fun q b=>(h q b).1) a with rfl|a
 ·exact d
 ·exact(h x a).2
theorem B1o{α:Type}{f g:α→Bool}: ∀{l:List α},(∀x∈l,f x=g x)→l.any f=l.any g
 | [],_=>rfl
 |x::r,h=>by rw [List.any_cons,List.any_cons,h x List.mem_cons_self,B1o fun y a=>h y (List.mem_cons_of_mem _ a)]
theorem C2U{p:Fn}(h: ∀q∈p.protos,UpF q):L5 (A9Q p)=0↔L5 (G1 p)=0:=by
 unfold A9Q G1
 rw [C0H (l:=p.protos.map A0U) fun x a=> ?_,C0H (l:=p.protos.map L8) fun x a=> ?_,C9J (m:=p.protos.map L8) zf ?_]
 ·rw [List.any_map,List.any_map]
  refine B1o fun q b=> ?_
  obtain⟨d,c,_⟩:=h q b
  show q.ups.any (A4V p.regs p.ups.length)=((q.ups.take 60).map A0o).any (A4V p.regs p.ups.length)
  rw [List.take_of_length_le d,List.any_map]
  refine B1o fun u e=> ?_
  have:=(c u e).1
  show A4V _ _ u=A4V _ _ (A0o u)
  unfold A4V A0o
  dsimp only
  rw [Int.max_eq_left this]
 ·obtain⟨q,b,rfl⟩:=List.mem_map.1 a
  obtain⟨d,c,_⟩:=h q b
  refine⟨rfl,C1s (Int.le_refl 0) zh zl fun x a=> ?_⟩
  obtain⟨y,_,rfl⟩:=List.mem_map.1 a
  exact⟨Int.le_max_right ..,Nat.zero_le _⟩
 ·obtain⟨q,b,rfl⟩:=List.mem_map.1 a
  obtain⟨d,c,_⟩:=h q b
  exact⟨rfl,C1s zh zh d c⟩
structure GoF(p:Fn):Prop where
 few:FewF p
 ups:B5F p
theorem GoF.child{p q:Fn}(h:GoF p)(a:q∈p.protos):GoF q:=⟨h.few.child a,h.ups.child a⟩
theorem GoF.sh{a b:Fn}(h:GoF b)(c:Sh a b):GoF a:=⟨⟨c.bd h.few.bd,Nat.le_trans c.tot h.few.tot⟩,c.upsF h.ups⟩
theorem GoF.up{p:Fn}(h:GoF p): ∀q∈p.protos,UpF q:=fun q a=>h.ups q (Fn.child_mem p.self_mem a)
theorem B7Q(l:List Fn):Fn.eachs (l.map A0U)=l.map A0U:=by
 induction l with
 |nil=>rfl
 |cons q r i=>rw [List.map_cons,Fn.eachs,Fn.each_eq,i];rfl
theorem GoF.sound{p:Fn}(h:GoF p):Pure Tryz.prog 45 [.agg p.row] (.bool (decide (L5 (G1 p)=0))):=by
 have l:=h.few.protos
 have j:=h.few.bd.self
 have b:=C2q p zd (fun x a=> ?_) ?_
 ·rw [decide_eq_decide.2 (C2U h.up)]at b
  exact b
 ·rw [Fn.each_eq]at a
  rcases List.mem_cons.1 a with rfl|a
  ·obtain⟨d,c,e,k,f,g⟩:=j
   exact⟨d,c,e,by show (p.protos.map A0U).length≤_;rw [List.length_map];exact k,f,g⟩
  ·rw [show (A9Q p).protos=p.protos.map A0U from rfl,B7Q]at a
   obtain⟨q,i,rfl⟩:=List.mem_map.1 a
   obtain⟨m,_⟩:=h.up q i
   exact⟨by show 1≤_;omega,Nat.zero_le _,Nat.zero_le _,Nat.zero_le _,by show q.ups.length≤_;omega,Nat.zero_le _⟩
 ·rw [Fn.each_eq,show (A9Q p).protos=p.protos.map A0U from rfl,B7Q]
  simp;omega
end
section
open Go.Abs
attribute [local irreducible] A0 Run
-- EV: stR, reR, i5, codR, zeroR
attribute [local go_sem] stR reR i5 H5 B4T
theorem B0C(l:List (List V))(b st k:Nat)(f:k=l.length)(rest:A2)(a: ∀e∈rest,e.1≠b∧e.1/10000≠11)(j:b/10000≠11)(n:Nat):
  A0 Tryz.prog 11 [.sl b st 0 k] ((b,st,.rows 5 l)::rest) n fun r g _=>r= .agg (H5 l)∧g=rest:=by
 subst f
 refine A0.enterK A2I Jk fun Q i=>Run.go 100 ?_
 have d:A2.del rest (11*10000+2)=rest:=A2t.del fun e h h2=>(a e h).2 (by rw [h2])
 have c:(b=11*10000+2)=False:=eq_false fun h2=>j (by rw [h2])
 simp only [Nat.reduceMul,Nat.reduceAdd]at d c
 refine QW ?_
 subst i
 exact Z2.to (r2:= .agg (H5 l)) (h2:=rest) ⟨rfl,rfl⟩ (Wk.trans (b:=⟨[(0,.agg [.str [],.int .i64 0,.int .i64 0,.bool false,.int .i64 2,.isl l,.nils,.nils,.nils,.nils,.nils])],rest,n+1⟩)
  (.freeze (b:=b) (st:=st) (sz:=5) (rs:=l) zf ⟨Frz.agg ⟨.of (.refl _),.of (.refl _),.of (.refl _),.of (.refl _),.of (.refl _),Frz.all rfl,.of (.refl _),.of (.refl _),.of (.refl _),.of (.refl _),.of (.refl _),trivial⟩,trivial⟩ (A4E.of fun e h=>⟨by simp [h],(a e h).1⟩))
  (.turn id ⟨I3.agg ⟨.refl _,.refl _,.refl _,.refl _,.refl _,.refl _,.nilI,.nilI,.nilI,.nilI,.nilI,trivial⟩,trivial⟩ (.of fun e h=>⟨e,h,rfl,rfl,.refl _⟩)))
theorem C2Y:Pure Tryz.prog 5 [] (.bool true):=by
 refine Pure.of 0 (A0.enter A1P Jk (Run.go 100 ?_))
 refine QM ?_
 refine(B0C _ _ _ 3 ?_ _ ?_ ?_ _).mono ?_
 ·rfl
 ·simp
 ·decide
 rintro r h n ⟨rfl,rfl⟩
 refine QL ?_
 refine A0.pureF D0T rfl ?_
 refine QL ?_
 refine(B0C _ _ _ 3 ?_ _ ?_ ?_ _).mono ?_
 ·rfl
 ·simp
 ·decide
 rintro r h n ⟨rfl,rfl⟩
 refine QL ?_
 refine A0.pureF C8Z rfl ?_
 refine QL ?_
 refine(B0C _ _ _ 3 ?_ _ ?_ ?_ _).mono ?_
 ·rfl
 ·simp
 ·decide
 rintro r h n ⟨rfl,rfl⟩
 refine QL ?_
 refine A0.pureF C4Y rfl ?_
 refine QL ?_
 refine(B0C _ _ _ 3 ?_ _ ?_ ?_ _).mono ?_
 ·rfl
 ·simp
 ·decide
 rintro r h n ⟨rfl,rfl⟩
 refine QL ?_
 refine A0.pureF D1h rfl ?_
 refine QL ?_
 refine A0.view D1i 1 rfl rfl ?_
 simp -implicitDefEqProofs only [go_sem]
 done
end
end Go.Proofs.YtcaaenddpjepiaaGreatDoor
