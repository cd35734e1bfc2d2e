/-
 What Get answers, for any bytes. No condition.
-/
import Derived.Test.YtcjgeliglgcflaaGreatDoorDmG3
import Derived.Test.YtcjgeliglgcflaaGreatDoorFnMb
set_option linter.unusedVariables false
set_option linter.unusedSimpArgs false
set_option maxRecDepth 100000
set_option maxHeartbeats 0
namespace Go.Proofs.YtcjgeliglgcflaaGreatDoor
open Go.Abs
attribute [local irreducible] A3 C2 Run
theorem C1d(p:Fn): ∀q∈p.each,(W6 q).length≤(W6 p).length:=by
 induction p using Fn.ind with
 |h p ih=>
 intro q hq
 rw [Fn.each_eq]at hq
 rcases List.mem_cons.1 hq with rfl|hq
 ·exact Nat.le_refl _
 ·obtain⟨r,hr,hq⟩:=Fn.mem_eachs.1 hq
  have h1:=ih r hr q hq
  have h2:(W6 r).length≤(encL p.protos).length:=by
   rw [Y8]
   obtain⟨s,t,e⟩:=List.append_of_mem hr
   rw [e]
   simp only [List.flatMap_append,List.flatMap_cons,List.length_append]
   omega
  rw [A0w p]
  simp only [List.length_append]
  omega
theorem C5D{p:Fn}(h:(W6 p).length≤10000000000):p.bd:=by
 intro q hq
 have h1:=C1d p q hq
 rw [A0w q,Y8]at h1
 simp only [List.length_append]at h1
 have hcC:=F2 (f:=fun i=>F4 (F9 i)) (fun i=>by rw [T1];show 1≤8*5;decide) q.code
 have hcL:=F2 (f:=D8) (fun z=>by rw [D2];decide) q.lines
 have hcK:=F2 (f:=T7) (fun v=>by unfold T7;simp) q.consts
 have hcP:=F2 (f:=W6) (fun q=>by rw [A0w];simp only [List.length_append,D2];omega) q.protos
 have hcU:=F2 (f:=upL) (fun u=>by unfold upL;simp only [List.length_append,List.length_singleton];omega) q.ups
 have hcV:=F2 (f:=vrL) (fun v=>by unfold vrL;simp only [List.length_append,T1];show 1≤_+8*4;omega) q.vars
 rw [show F4 q.lines=q.lines.flatMap D8 from rfl]at h1
 exact⟨by omega,by omega,by omega,by omega,by omega,by omega⟩
theorem B3H{α:Type}{f:List Int→Rd α}{C:α→Prop}(hf: ∀l x r,f l= .ok (x,r)→C x): ∀(n:Nat) (l r:List Int) (xs:List α),Q5 f n l= .ok (xs,r)→ ∀x∈xs,C x
 |0,l,r,xs,h=>by
  injection h with h
  injection h with e1 e2
  subst e1
  intro x hx
  cases hx
 |n+1,l,r,xs,h=>by
  obtain⟨x,l1,h1,h2⟩:=Rd.bind_inv h
  obtain⟨ys,l2,h3,h4⟩:=Rd.bind_inv h2
  injection h4 with h4
  injection h4 with e1 e2
  subst e1
  intro y hy
  rcases List.mem_cons.1 hy with rfl|hy
  ·exact hf _ _ _ h1
  ·exact B3H hf n _ _ _ h3 y hy
theorem B3m{d:Nat}: ∀{l:List Fn},(∀q∈l,q.depth≤d)→Fn.depths l≤d
 | [],_=>Nat.zero_le _
 |p::r,h=>by
  rw [Fn.depths]
  exact Nat.max_le.2 ⟨h p List.mem_cons_self,B3m fun q hq=>h q (List.mem_cons_of_mem _ hq)⟩
theorem B1N: ∀(d:Nat) (l r:List Int) (p:Fn),A4D d l= .ok (p,r)→p.depth≤d
 |0,l,r,p,h=>by cases h
 |d+1,l,r,p,h=>by
  rw [B8w]at h
  obtain⟨name,l1,_,h⟩:=Rd.bind_inv h
  obtain⟨line,l2,_,h⟩:=Rd.bind_inv h
  obtain⟨params,l3,_,h⟩:=Rd.bind_inv h
  obtain⟨vararg,l4,_,h⟩:=Rd.bind_inv h
  obtain⟨regs,l5,_,h⟩:=Rd.bind_inv h
  obtain⟨code,l6,_,h⟩:=Rd.bind_inv h
  obtain⟨lines,l7,_,h⟩:=Rd.bind_inv h
  obtain⟨consts,l8,_,h⟩:=Rd.bind_inv h
  obtain⟨protos,l9,h9,h⟩:=Rd.bind_inv h
  obtain⟨ups,l10,_,h⟩:=Rd.bind_inv h
  obtain⟨vars,l11,_,h⟩:=Rd.bind_inv h
  injection h with h
  injection h with e1 e2
  subst e1
  obtain⟨n,l12,_,h10⟩:=Rd.bind_inv h9
  rw [Fn.depth_eq]
  exact Nat.succ_le_succ (B3m (B3H (fun l x r hx=>B1N d l r x hx) _ _ _ _ h10))
abbrev nz{α:Type}(x:Rd α):Prop:= ∀e,x= .error e→e≠0
theorem D0{α β:Type}{x:Rd α}{f:α→List Int→Rd β}(h1:nz x)(h2: ∀a l,nz (f a l)):nz (x.bind f):=by
 intro e h
 cases x with
 |ok y=>exact h2 _ _ e h
 |error z=>
  injection (show (Except.error z:Rd β)= .error e from h)with h
  exact h1 e (by rw [h])
theorem A2p{α:Type}(r:α×List Int):nz (.ok r:Rd α):=fun e h=>by cases h
theorem A9S{α:Type}{e:Int}(h:e≠0):nz (.error e:Rd α):=fun e' h'=>by cases h';exact h
theorem A9y(n:Nat)(l:List Int):nz (A1q n l):=by
 unfold A1q
 split
 ·exact A2p _
 ·exact A9S (by decide)
theorem K5(l:List Int):nz (W8 l):=D0 (A9y _ _) fun _ _=>A2p _
theorem B0c(l:List Int):nz (A2C l):=D0 (A9y _ _) fun _ _=>by
 split
 ·exact A9S (by decide)
 ·exact A2p _
theorem B8C(l:List Int):nz (B4v l):=D0 (K5 _) fun _ _=>by
 split
 ·exact A9S (by decide)
 split
 ·exact A9S (by decide)
 ·exact A2p _
theorem B1h(l:List Int):nz (B0P l):=D0 (B8C _) fun _ _=>D0 (A9y _ _) fun _ _=>A2p _
theorem C4m(l:List Int):nz (B0Q l):=D0 (A9y _ _) fun _ _=>by
 split
 ·exact A2p _
 split
 ·exact D0 (B0c _) fun _ _=>A2p _
 split
 ·exact D0 (K5 _) fun _ _=>D0 (K5 _) fun _ _=>A2p _
 split
 ·exact D0 (B1h _) fun _ _=>A2p _
 ·exact A9S (by decide)
theorem B5U{α:Type}{f:List Int→Rd α}(hf: ∀l,nz (f l)): ∀(n:Nat) (l:List Int),nz (Q5 f n l)
 |0,_=>A2p _
 |n+1,l=>D0 (hf l) fun _ l=>D0 (B5U hf n l) fun _ _=>A2p _
theorem A3K{α:Type}{f:List Int→Rd α}(hf: ∀l,nz (f l))(l:List Int):nz (L9 f l):=D0 (B8C l) fun n l=>B5U hf n l
theorem C3s(l:List Int):nz (B2T l):=D0 (K5 _) fun _ _=>D0 (K5 _) fun _ _=>D0 (K5 _) fun _ _=>D0 (K5 _) fun _ _=>D0 (K5 _) fun _ _=>A2p _
theorem C7D(l:List Int):nz (upP l):=D0 (B1h _) fun _ _=>D0 (B0c _) fun _ _=>D0 (K5 _) fun _ _=>A2p _
theorem C7I(l:List Int):nz (vrP l):=D0 (B1h _) fun _ _=>D0 (K5 _) fun _ _=>D0 (K5 _) fun _ _=>D0 (K5 _) fun _ _=>D0 (K5 _) fun _ _=>A2p _
theorem B8x: ∀(d:Nat) (l:List Int),nz (A4D d l)
 |0,_=>A9S (by decide)
 |d+1,l=>D0 (B1h _) fun _ _=>D0 (K5 _) fun _ _=>D0 (K5 _) fun _ _=>D0 (B0c _) fun _ _=>D0 (K5 _) fun _ _=>
  D0 (A3K C3s _) fun _ _=>D0 (A3K K5 _) fun _ _=>D0 (A3K C4m _) fun _ _=>D0 (A3K (B8x d) _) fun _ _=>D0 (A3K C7D _) fun _ _=>D0 (A3K C7I _) fun _ _=>A2p _
def B7k(L:List Int)(a b c d:Int):Except Int Fn:=
 if V4 a b c d≠A1x L then .error 20 else if B0d (L.take 5)≠ [83,67,82,66,1]then .error 4 else match A4D 64 (L.drop 5)with
 | .error e=> .error e
 | .ok (p,r)=>if r≠ []then .error 4 else if A3E p=0 then .ok p else .error (A3E p)
def C6k:Except Int Fn→V
 | .ok p=> .tup [.agg p.row,.int .i64 0]
 | .error e=> .tup [B2N,.int .i64 e]
theorem C1p(M:List Int)(a b c d:Int)(h5:5≤M.length)(hg:J8 M):Pure Tryz.prog 8 [.isl (byR (M++ [a,b,c,d]))] (C6k (B7k M a b c d)):=by
 have hl:=hg.2
 by_cases hne:V4 a b c d=A1x M
 rotate_left
 ·unfold B7k
  rw [if_pos hne]
  exact C3n M a b c d h5 hl hne
 have hG:B7k M a b c d=if B0d (M.take 5)≠ [83,67,82,66,1]then .error 4 else match A4D 64 (M.drop 5)with
  | .error e=> .error e
  | .ok (p,r)=>if r≠ []then .error 4 else if A3E p=0 then .ok p else .error (A3E p):=by
  unfold B7k
  rw [if_neg (fun h=>h hne)]
 generalize B7k M a b c d=G at*
 have hgd:J8 (M.drop 5):=⟨fun z hz=>hg.1 z (List.mem_of_mem_drop hz),by rw [List.length_drop];omega⟩
 have hdec:=B5u (M.drop 5) hgd
 have hbd: ∀p,A4D 64 (M.drop 5)= .ok (p,[])→p.bd∧p.depth≤1000000:=fun p hp=>by
  have h1:=B1O _ _ _ _ hgd.1 hp
  have h2:=congrArg List.length h1
  rw [List.append_nil]at h2
  exact⟨C5D (by have:=hgd.2;omega),Nat.le_trans (B1N _ _ _ _ hp) (by decide)⟩
 have hnz:=B8x 64 (M.drop 5)
 have hs:=B2G M (by have:10000000000≤reachBytes:=(by decide);omega)
 have hR:(byR (M++ [a,b,c,d])).length=M.length+4:=by rw [P5];simp
 have hS:=A3s (M++ [a,b,c,d])
 have ha:(byR (M++ [a,b,c,d]))[M.length]? =some [.int .u8 a]:=by simp [byR]
 have hb:(byR (M++ [a,b,c,d]))[M.length+1]? =some [.int .u8 b]:=by simp [byR]
 have hc:(byR (M++ [a,b,c,d]))[M.length+2]? =some [.int .u8 c]:=by simp [byR]
 have hd:(byR (M++ [a,b,c,d]))[M.length+3]? =some [.int .u8 d]:=by simp [byR]
 have ht:(byR (M++ [a,b,c,d])).take M.length=byR M:=by simp [byR]
 have ht5:(byR (M++ [a,b,c,d])).take 5=byR (M.take 5):=by
  unfold byR
  rw [←List.map_take,List.take_append_of_le_length h5]
 have hd5:((byR (M++ [a,b,c,d])).drop 5).take (M.length-5)=byR (M.drop 5):=by
  unfold byR
  rw [←List.map_drop,List.drop_append_of_le_length h5,←List.map_take,List.take_left' (by rw [List.length_drop])]
 have hbs:=B3e (M.take 5)
 generalize byR (M++ [a,b,c,d])=BR at*
 generalize byR (M.take 5)=B5 at*
 generalize B0d (M.take 5)=T5 at*
 have hDs:=A8w (M.drop 5)
 generalize byR (M.drop 5)=DR at*
 generalize A4D 64 (M.drop 5)=FP at*
 generalize hLd:M.length=L at*
 refine Pure.of 0 (A3.enterK A5U (Nat.le_of_ble_eq_true rfl) fun Q hQ=>Run.go 100 ?_)
 have e0:(L:Int)+4-4=(L:Int):=by omega
 have e1:((L+4:Nat):Int)=(L:Int)+4:=by omega
 have c5:((L:Int)<5)=False:=eq_false (by omega)
 have t1:((L:Int)+1).toNat=L+1:=by omega
 have t2:((L:Int)+2).toNat=L+2:=by omega
 have t3:((L:Int)+3).toNat=L+3:=by omega
 have q0:((0:Int)≤(L:Int))=True:=eq_true (by omega)
 have q1:((L:Int)<(L:Int)+4)=True:=eq_true (by omega)
 have u0:(L<L+4)=True:=eq_true (by omega)
 have u1:(L+1<L+4)=True:=eq_true (by omega)
 have u2:(L+2<L+4)=True:=eq_true (by omega)
 have u3:(L+3<L+4)=True:=eq_true (by omega)
 have v1:((L:Int)+1<(L:Int)+4)=True:=eq_true (by omega)
 have v2:((L:Int)+2<(L:Int)+4)=True:=eq_true (by omega)
 have v3:((L:Int)+3<(L:Int)+4)=True:=eq_true (by omega)
 have p1:((0:Int)≤(L:Int)+1)=True:=eq_true (by omega)
 have p2:((0:Int)≤(L:Int)+2)=True:=eq_true (by omega)
 have p3:((0:Int)≤(L:Int)+3)=True:=eq_true (by omega)
 simp -implicitDefEqProofs only [go_sem,A8,hR,hS,e0,e1,c5,t1,t2,t3,q0,q1,u0,u1,u2,u3,v1,v2,v3,p1,p2,p3,ha,hb,hc,hd,Option.some.injEq,forall_eq',Int.toNat_natCast]
 have hsub:((L:Int)-0).toNat=L:=by omega
 have hsub5:((L:Int)-5).toNat=L-5:=by omega
 rw [hsub,ht]
 refine⟨by omega,by omega,by omega,by omega,by omega,A3.pureF hs (by simp -implicitDefEqProofs only [go_sem,A8w]) ?_⟩
 have hne':=eq_true hne
 unfold V4 at hne'
 by_cases h83:T5= [83,67,82,66,1]
 rotate_left
 ·rw [if_pos h83]at hG
  subst hG
  simp -implicitDefEqProofs only [go_sem,hne',hR,hS,e1,ht5,hbs,h83]
  subst hQ
  exact⟨by omega,.is rfl⟩
 rw [if_neg (fun h=>h h83)]at hG
 simp -implicitDefEqProofs only [go_sem,hne',hR,hS,e1,ht5,hbs,h83,hsub5,hd5]
 refine⟨by omega,by omega,by omega,A3.pureF hdec (by simp -implicitDefEqProofs only [go_sem,hDs]) ?_⟩
 cases FP with
 |error e=>
  have he:=hnz e rfl
  subst hG
  simp -implicitDefEqProofs only [go_sem,B5t,B2N,he]
  subst hQ
  exact .is rfl
 | ok y=>
  obtain⟨p,r⟩:=y
  by_cases hr:r= []
  rotate_left
  ·simp only at hG
   rw [if_pos hr]at hG
   subst hG
   simp -implicitDefEqProofs only [go_sem,B5t,B2N,hr]
   subst hQ
   exact .is rfl
  subst hr
  obtain⟨hb1,hb2⟩:=hbd p rfl
  have hck:=A0K p hb1 hb2
  have hps:=Fn.row_sub G6 p
  obtain⟨g1,g2⟩:=C7 p
  simp only [ne_eq,not_true_eq_false,if_false]at hG
  by_cases c0:A3E p=0
  ·rw [if_pos c0]at hG
   subst hG
   simp -implicitDefEqProofs only [go_sem,B5t,g1,g2]
   refine A3.pureF hck (by simp -implicitDefEqProofs only [go_sem,hps]) ?_
   simp -implicitDefEqProofs only [go_sem,c0,g1,g2]
   subst hQ
   exact .is (by simp -implicitDefEqProofs only [go_sem,C6k,Fn.row_frz'])
  ·rw [if_neg c0]at hG
   subst hG
   simp -implicitDefEqProofs only [go_sem,B5t,g1,g2]
   refine A3.pureF hck (by simp -implicitDefEqProofs only [go_sem,hps]) ?_
   simp -implicitDefEqProofs only [go_sem,c0,g1,g2]
   subst hQ
   exact .is rfl

mutual
def v64:V→Prop
 | .int .i64 z=>B1P z
 | .isl es=>v64LL es
 | .agg cs=>v64L cs
 |_=>True
def v64L:List V→Prop
 | []=>True
 |c::r=>v64 c∧v64L r
def v64LL:List (List V)→Prop
 | []=>True
 |c::r=>v64L c∧v64LL r
end
theorem B6O: ∀{a b:List V},v64L a→v64L b→v64L (a++b)
 | [],_,_,h=>h
 |c::r,b,h1,h2=>by
  rw [v64L]at h1
  rw [List.cons_append,v64L]
  exact⟨h1.1,B6O h1.2 h2⟩
theorem B0f: ∀{l:List (List V)},(∀c∈l,v64L c)→v64L l.flatten
 | [],_=>by rw [List.flatten_nil,v64L];trivial
 |c::r,h=>by
  rw [List.flatten_cons]
  exact B6O (h c List.mem_cons_self) (B0f fun x hx=>h x (List.mem_cons_of_mem _ hx))
theorem B0e: ∀{l:List (List V)},v64LL l↔ ∀c∈l,v64L c
 | []=>by simp [v64LL]
 |c::r=>by rw [v64LL,B0e,List.forall_mem_cons]
theorem C4g{P:Program}{t:TypeId}{row:List V}(h:A5K P t row):v64L row:=by
 induction h with
 |bool h b=>rw [v64L,v64L];exact⟨by unfold v64;trivial,trivial⟩
 | @int t k h n hn=>
  rw [v64L,v64L]
  refine⟨?_,trivial⟩
  have h:k= .i64→B1P n:=fun e=>by
   subst e
   have h:IntKind.i64.min≤n∧n≤IntKind.i64.max:=by simpa [Lit.wf]using hn
   rw [show IntKind.i64.min= -9223372036854775808 from rfl,show IntKind.i64.max=9223372036854775807 from rfl]at h
   exact⟨h.1,by omega⟩
  unfold v64
  cases k<;>first|trivial|exact h rfl
 |str h s hs=>rw [v64L,v64L];exact⟨by unfold v64;trivial,trivial⟩
 |slice h es hl hb he ih=>rw [v64L,v64L,v64];exact⟨B0e.2 ih,trivial⟩
 |struct h cs hl hf ih=>
  refine B0f fun c hc=> ?_
  obtain⟨i,hi,rfl⟩:=List.getElem_of_mem hc
  exact ih i _ _ (List.getElem?_eq_getElem (by omega)) (List.getElem?_eq_getElem hi)
 |array h cs hl hf ih=>exact B0f ih
abbrev O1(l:List Int):Prop:=l.length≤100000000000
theorem B0b{b:List Int}{n:Nat}(h:b.length=n)(r:List Int):A1q n (b++r)= .ok (b,r):=by
 subst h
 unfold A1q
 rw [if_pos (by simp),List.take_left,List.drop_left]
theorem B8S(c:Int)(r:List Int):A1q 1 ([c]++r)= .ok ([c],r):=B0b (b:= [c]) rfl r
theorem G2{z:Int}(hz:B1P z)(r:List Int):W8 (D8 z++r)= .ok (z,r):=by
 unfold W8
 rw [B0b (D2 z),Rd.bind_ok,C4h hz]
theorem A8q(t:Bool)(r:List Int):A2C ([if t then 1 else 0]++r)= .ok (t,r):=by
 unfold A2C
 rw [B8S,Rd.bind_ok]
 cases t<;>rfl
theorem B5N{n:Nat}{r:List Int}(h:n≤r.length)(hr:O1 r):B4v (D8 n++r)= .ok (n,r):=by
 unfold B4v
 rw [G2 (z:=(n:Int)) ⟨by omega,by omega⟩,Rd.bind_ok,if_neg (by omega),if_neg (by omega),Int.toNat_natCast]
theorem C2C(s:List UInt8):B0d (s.map fun u=>(u.toNat:Int))=s:=by
 unfold B0d
 rw [List.map_map]
 conv=>rhs;rw [←List.map_id s]
 refine List.map_congr_left fun u _=> ?_
 simp
theorem A9s{s:List UInt8}{r:List Int}(h:O1 (w8 s++r)):B0P (w8 s++r)= .ok (s,r):=by
 unfold w8 at h⊢
 unfold B0P
 rw [List.append_assoc]at h⊢
 have h2:=h
 unfold O1 at h
 rw [List.length_append,List.length_append,List.length_map]at h
 rw [B5N (by rw [List.length_append,List.length_map];omega) (by unfold O1;rw [List.length_append,List.length_map];omega),Rd.bind_ok,B0b (List.length_map ..),Rd.bind_ok,C2C]
theorem C2G{v:Kst}{r:List Int}(hv:A4w v=false)(hp:B1P v.p)(hq:B1P v.q)(h:O1 (T7 v++r)):B0Q (T7 v++r)= .ok (v,r):=by
 obtain⟨kind,p,q,str,ref⟩:=v
 simp only [A4w,Bool.or_eq_false_iff,decide_eq_false_iff_not,Bool.not_eq_false']at hv
 obtain⟨h3,hv⟩:=hv
 unfold O7 at hv
 unfold B0Q
 by_cases k0:kind=0
 ·subst k0
  simp at hv
  obtain⟨rfl,rfl,rfl,rfl⟩:=hv
  rfl
 by_cases k1:kind=1
 ·subst k1
  simp at hv
  obtain⟨hr,rfl,rfl,rfl⟩:=hv
  show (A1q 1 ([1]++([if ref=1 then 1 else 0]++r))).bind _=_
  rw [B8S,Rd.bind_ok]
  simp only [List.getD_cons_zero]
  have e:([if ref=1 then 1 else 0]++r:List Int)= [if decide (ref=1)then 1 else 0]++r:=by simp
  rw [if_neg (by decide),if_pos trivial,e,A8q,Rd.bind_ok]
  rcases hr with rfl|rfl<;>rfl
 by_cases k2:kind=2
 ·subst k2
  simp at hv
  obtain⟨_,rfl,rfl⟩:=hv
  show (A1q 1 ([2]++(D8 p++D8 q)++r)).bind _=_
  rw [List.append_assoc,B8S,Rd.bind_ok]
  simp only [List.getD_cons_zero]
  rw [if_neg (by decide),if_neg (by decide),if_pos trivial,List.append_assoc,G2 hp,Rd.bind_ok,G2 hq,Rd.bind_ok]
 ·simp [k0,k1,k2]at hv
  obtain⟨rfl,_,rfl,rfl,rfl⟩:=hv
  have h:O1 ([3]++w8 str++r):=h
  show (A1q 1 ([3]++w8 str++r)).bind _=_
  rw [List.append_assoc]at h⊢
  rw [B8S,Rd.bind_ok]
  simp only [List.getD_cons_zero]
  rw [if_neg (by decide),if_neg (by decide),if_neg (by decide),if_pos trivial,A9s (by unfold O1 at h⊢;rw [List.length_append]at h;omega),Rd.bind_ok]
theorem O1.right{a b:List Int}(h:O1 (a++b)):O1 b:=by
 unfold O1 at h⊢
 rw [List.length_append]at h
 omega
theorem B3I{α:Type}{f:List Int→Rd α}{w:α→List Int}: ∀{xs:List α} {r:List Int},(∀x∈xs,∀r,O1 (w x++r)→f (w x++r)= .ok (x,r))→O1 (xs.flatMap w++r)→Q5 f xs.length (xs.flatMap w++r)= .ok (xs,r)
 | [],r,_,_=>rfl
 |x::xs,r,hf,h=>by
  rw [List.flatMap_cons,List.append_assoc]at h⊢
  rw [List.length_cons,Q5,hf x List.mem_cons_self _ h,Rd.bind_ok,B3I (fun y hy=>hf y (List.mem_cons_of_mem _ hy)) h.right,Rd.bind_ok]
theorem A1A{α:Type}{f:List Int→Rd α}{w:α→List Int}{xs:List α}{r:List Int}(hw: ∀x,1≤(w x).length)(hf: ∀x∈xs,∀r,O1 (w x++r)→f (w x++r)= .ok (x,r))(h:O1 (D8 xs.length++(xs.flatMap w++r))):L9 f (D8 xs.length++(xs.flatMap w++r))= .ok (xs,r):=by
 unfold L9
 have:=F2 hw xs
 rw [B5N (by rw [List.length_append];omega) h.right,Rd.bind_ok,B3I hf h.right]
theorem C1w{i:Ins}{r:List Int}(hi:v64L i.row):B2T (F4 (F9 i)++r)= .ok (i,r):=by
 simp only [Ins.row,v64L,v64]at hi
 obtain⟨h1,h2,h3,h4,h5,_⟩:=hi
 unfold B2T
 rw [show F4 (F9 i)++r=D8 i.op++(D8 i.a++(D8 i.b++(D8 i.c++(D8 i.d++r)))) by simp [F4,F9]]
 rw [G2 h1,Rd.bind_ok,G2 h2,Rd.bind_ok,G2 h3,Rd.bind_ok,G2 h4,Rd.bind_ok,G2 h5,Rd.bind_ok]
theorem C4i{u:Upv}{r:List Int}(hu:v64L u.row)(h:O1 (upL u++r)):upP (upL u++r)= .ok (u,r):=by
 simp only [Upv.row,v64L,v64]at hu
 unfold upP
 have e:upL u++r=w8 u.name++([if u.loc then 1 else 0]++(D8 u.idx++r)):=by simp [upL]
 rw [e]at h⊢
 rw [A9s h,Rd.bind_ok,A8q,Rd.bind_ok,G2 hu.2.2.1,Rd.bind_ok]
theorem C4n{u:Vr}{r:List Int}(hu:v64L u.row)(h:O1 (vrL u++r)):vrP (vrL u++r)= .ok (u,r):=by
 simp only [Vr.row,v64L,v64]at hu
 obtain⟨_,h1,h2,h3,h4,_⟩:=hu
 unfold vrP
 have e:vrL u++r=w8 u.name++(D8 u.reg++(D8 u.lo++(D8 u.hi++(D8 u.attr++r)))):=by simp [vrL,F4,A2F]
 rw [e]at h⊢
 rw [A9s h,Rd.bind_ok,G2 h1,Rd.bind_ok,G2 h2,Rd.bind_ok,G2 h3,Rd.bind_ok,G2 h4,Rd.bind_ok]
theorem B5C: ∀(d:Nat) (p:Fn) (r:List Int),p.depth≤d→v64L p.row→(∀q∈p.each,∀v∈q.consts,A4w v=false)→O1 (W6 p++r)→A4D d (W6 p++r)= .ok (p,r)
 |0,p,r,hd,_,_,_=>by rw [Fn.depth_eq]at hd;omega
 | d+1,p,r,hd,hv,hk,h=>by
  have hdq: ∀q∈p.protos,q.depth≤d:=fun q hq=>by
   have:=Fn.depths_mem hq
   rw [Fn.depth_eq]at hd
   omega
  have hkq: ∀q∈p.protos,∀x∈q.each,∀v∈x.consts,A4w v=false:=fun q hq x hx=>hk x (Fn.each_trans p q (Fn.child_mem p.self_mem hq) x hx)
  have hkp:=hk p p.self_mem
  rw [Fn.row_eq]at hv
  simp only [v64L,v64,B0e,List.mem_map,forall_exists_index,and_imp,forall_apply_eq_imp_iff₂]at hv
  obtain⟨_,v1,v2,_,v3,v4,v5,v6,v7,v8,v9,_⟩:=hv
  have e:W6 p++r=w8 p.name++(D8 p.line++(D8 p.params++([if p.vararg then 1 else 0]++(D8 p.regs++(D8 p.code.length++(p.code.flatMap (fun i=>F4 (F9 i))++(D8 p.lines.length++(p.lines.flatMap D8++(D8 p.consts.length++(p.consts.flatMap T7++(D8 p.protos.length++(p.protos.flatMap W6++(D8 p.ups.length++(p.ups.flatMap upL++(D8 p.vars.length++(p.vars.flatMap vrL++r)))))))))))))))):=by
   rw [A0w,Y8]
   simp only [List.append_assoc,F4]
  rw [e]at h⊢
  have hsl: ∀t:List UInt8,(w8 t).length=8+t.length:=fun t=>by unfold w8;rw [List.length_append,D2,List.length_map]
  have h1:=h.right
  have h5:=h1.right.right.right.right
  have h7:=h5.right.right
  have h9:=h7.right.right
  have h11:=h9.right.right
  have h13:=h11.right.right
  have h15:=h13.right.right
  rw [A4D]
  rw [A9s h,Rd.bind_ok,G2 v1,Rd.bind_ok,G2 v2,Rd.bind_ok,A8q,Rd.bind_ok,G2 v3,Rd.bind_ok]
  rw [A1A (fun i=>by rw [T1];show 1≤8*5;decide) (fun i hi r _=>C1w (v4 i hi)) h5,Rd.bind_ok]
  rw [A1A (fun z=>by rw [D2];decide) (fun z hz r _=>G2 (by have:=v5 z hz;simp only [D1,v64L,v64]at this;exact this.1) r) h7,Rd.bind_ok]
  rw [A1A (fun v=>by unfold T7;simp) (fun v hv r hr=>C2G (hkp v hv) (by have:=v6 v hv;simp only [Kst.row,v64L,v64]at this;exact this.2.1) (by have:=v6 v hv;simp only [Kst.row,v64L,v64]at this;exact this.2.2.1) hr) h9,Rd.bind_ok]
  rw [A1A (fun q=>by rw [A0w];simp only [List.length_append,D2];omega) (fun q hq r hr=>B5C d q r (hdq q hq) (v7 q hq) (hkq q hq) hr) h11,Rd.bind_ok]
  rw [A1A (fun u=>by unfold upL;simp only [List.length_append,List.length_singleton];omega) (fun u hu r hr=>C4i (v8 u hu) hr) h13,Rd.bind_ok]
  rw [A1A (fun v=>by unfold vrL;simp only [List.length_append,T1];show 1≤_+8*4;omega) (fun v hv r hr=>C4n (v9 v hv) hr) h15,Rd.bind_ok]
  cases p
  rfl
theorem B0o: ∀{l:List Int},N7 l=0→ ∀x∈l,x=0
 | [],_=>by simp
 | x::r,h=>by
  rw [N7]at h
  split at h
  ·rename_i h0
   intro y hy
   rcases List.mem_cons.1 hy with rfl|hy
   ·exact h0
   ·exact B0o h y hy
  ·rename_i h0;exact(h0 h).elim
theorem B5i{p:Fn}(h:A3E p=0):p.depth≤64∧ ∀q∈p.each,∀v∈q.consts,A4w v=false:=by
 unfold A3E A9J at h
 split at h
 ·omega
 refine⟨by omega,fun q hq v hv=> ?_⟩
 have hs:B4L q=0:=B0o h _ (List.mem_map_of_mem hq)
 unfold B4L at hs
 split at hs
 ·omega
 split at hs
 ·omega
 rename_i h2
 have h2:=Classical.not_not.1 h2
 unfold B0p at h2
 split at h2
 ·rename_i hc
  have:=hc.2.2.2.2.2.2.2.2.1
  rw [List.any_eq_false]at this
  simpa using this v hv
 ·omega
end Go.Proofs.YtcjgeliglgcflaaGreatDoor
