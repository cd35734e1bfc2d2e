/-
 Weakening of abstract states; pointers given up; calls that need a part of the heap. No condition.
-/
import Derived.Test.YtcaaenddpjepiaaGreatDoorSim
set_option linter.unusedVariables false
set_option linter.unusedSimpArgs false
set_option maxRecDepth 100000
set_option maxHeartbeats 0
namespace Go.Abs
section
def Wk(s s':St):Prop:= ∀w O ρ,HeapR w O ρ s.n s.h→ ∃ρ',HeapR w O ρ' s'.n s'.h∧Ext (A8 w O ρ s.n s.h) (A8 w O ρ' s'.n s'.h)∧
 ∀a:Nat→Value,(∀i,R (A8 w O ρ s.n s.h) (D9 s.sl i) (a i))→ ∀i,R (A8 w O ρ' s'.n s'.h) (D9 s'.sl i) (a i)
theorem Wk.refl(s:St):Wk s s:=fun w O ρ a=>⟨ρ,a,Ext.refl _,fun _ h=>h⟩
theorem Wk.trans{a b c:St}(f:Wk a b)(h2:Wk b c):Wk a c:=by
 intro w O ρ d
 obtain⟨ρ1,r,i,e⟩:=f w O ρ d
 obtain⟨ρ2,g,x,v⟩:=h2 w O ρ1 r
 exact⟨ρ2,g,i.trans x,fun a h=>v a (e a h)⟩
theorem C1.wk{s s':St}(j:C1 s s'):Wk s s':=by
 intro w O ρ e
 obtain⟨m,g,n⟩:=j
 obtain⟨c,h⟩:=e.drop g
 obtain⟨d,b⟩:=c.up n
 refine⟨ρ,d,h.trans b,fun a k i=> ?_⟩
 rcases B5z (sl:=s'.sl) i with f|l
 ·rw [f];exact .undef _
 ·have:=m _ l
  simp only at this
  rw [this]
  exact((k i).mono h).mono b
theorem OK.wk{c:Cx}{k:List AItem}{s s':St}(m:Wk s s')(h:OK c k s'):OK c k s:=by
 intro O ρ a w j b o g e n i
 obtain⟨ρ',f,d,l⟩:=m w O ρ g
 exact(h O ρ' a w j b o f ⟨e.size,Nat.le_trans e.base d.size,e.defers.mono d,l _ e.slot⟩ (n.mono d.n d.ρ) i).step (Steps.refl _ _) d
theorem Run.wk{c:Cf}{k:List AItem}{s s':St}(d:Wk s s')(h:Run c k s'):Run c k s:=fun f b a=>OK.wk d (h f b a)
theorem Run.roundsK{c:Cf}{k:List AItem}{s:St}{α:Type}{x:AC}(S:α→St)(J:α→Prop)(μ:α→Nat)(a:α)(b:Wk s (S a))(g:J a)
  (r: ∀y,J y→(∀s z,J z→μ z<μ y→Wk s (S z)→Run c (.lp x::k) s)→Run c (.code x:: .lp x::k) (S y)):Run c (.code (.loop x)::k) s:=by
 have d: ∀m y,μ y=m→J y→Run c (.code x:: .lp x::k) (S y):=by
  intro m
  induction m using Nat.strongRecOn with
  |_ m i=>
   intro y f j
   exact r y j fun s z e h b=>Run.wk b (Run.lp (i (μ z) (f ▸ h) z rfl e))
 exact Run.loop (Run.wk b (d _ a rfl g))
theorem A0.wk{P:Program}{f:FuncId}{x:List V}{h:A2}{n:Nat}{k t:Res}(D:A0 P f x h n t)
  (B: ∀r j a,t r j a→ ∃b g d,Wk ⟨[(0,r)],j,a⟩ ⟨[(0,b)],g,d⟩∧k b g d):A0 P f x h n k:=by
 intro w O ρ c u E
 refine(D w O ρ c u E).mono ?_
 rintro e y ⟨v,r,j,a,ρ',rfl,l,m,p,C⟩
 obtain⟨b,g,d,A,o⟩:=B r j a l
 obtain⟨ρ2,q,s,z⟩:=A y O ρ' m
 refine⟨v,b,g,d,ρ2,rfl,o,q,?_,C.trans s⟩
 have:=z (fun i=>if i=0 then v else Go.undef) (fun i=>by
  cases i with
  |zero=>exact p
  |succ i=>exact .undef _) 0
 exact this
theorem A0.pre{P:Program}{f:FuncId}{x xs':List V}{h h':A2}{n n':Nat}{k:Res}(A:Wk ⟨A4 0 x,h,n⟩ ⟨A4 0 xs',h',n'⟩)(s:xs'.length=x.length)
  (l:A0 P f xs' h' n' k):A0 P f x h n k:=by
 intro w O ρ a t o
 obtain⟨ρ',d,B,z⟩:=A w O ρ t
 refine(l w O ρ' a d ⟨s.trans o.1,fun i c v l p=> ?_⟩).mono ?_
 ·have:=z (fun i=>a.getD i Go.undef) (fun i=>by
   simp only [B0P,Nat.zero_le,if_true,Nat.sub_zero]
   cases hi:x[i]? with
   |none=>exact .undef _
   |some y=>
    have g:i<a.size:=by rw [←o.1];exact(List.getElem?_eq_some_iff.1 hi).1
    have e:a[i]? =some a[i]:=by simp [g]
    simp only [Option.getD_some,Array.getD_eq_getD_getElem?,e]
    exact o.2 i y _ hi e) i
  simp only [B0P,Nat.zero_le,if_true,Nat.sub_zero,l,Option.getD_some,Array.getD_eq_getD_getElem?,p]at this
  exact this
 ·rintro e D ⟨v,r,C,u,ρ2,rfl,b,m,j,q⟩
  exact⟨v,r,C,u,ρ2,rfl,b,m,j,B.trans q⟩
def Z2(k:Res)(r:V)(h:A2)(n:Nat):Prop:= ∃r2 h2 n2,Wk ⟨[(0,r)],h,n⟩ ⟨[(0,r2)],h2,n2⟩∧k r2 h2 n2
@[congr] theorem D2F{k:Res}{r r':V}{h h':A2}{n:Nat}(e:r=r')(e1:h=h'):Z2 k r h n=Z2 k r' h' n:=by rw [e,e1]
theorem Z2.is{k:Res}{r:V}{h:A2}{n:Nat}(a:k r h n):Z2 k r h n:=⟨r,h,n,.refl _,a⟩
theorem Z2.to{k:Res}{r r2:V}{h h2:A2}{n n2:Nat}(a:k r2 h2 n2)(b:Wk ⟨[(0,r)],h,n⟩ ⟨[(0,r2)],h2,n2⟩):Z2 k r h n:=⟨r2,h2,n2,b,a⟩
theorem Z2.mk{k:Res}{r r2:V}{h h2:A2}{n n2:Nat}(b:Wk ⟨[(0,r)],h,n⟩ ⟨[(0,r2)],h2,n2⟩)(a:k r2 h2 n2):Z2 k r h n:=⟨r2,h2,n2,b,a⟩
theorem A0.enterK{P:Program}{f:FuncId}{N:Nat}{ac:AC}{rs:List RV}{x:List V}{h:A2}{n:Nat}{Q:Res}(b:B8 P f=some (N,ac,rs))(c:x.length≤N)
  (a: ∀q,q=Q→Run ⟨P,N,rs,Z2 q,none⟩ [.code ac] ⟨A4 0 x,h,n⟩):A0 P f x h n Q:=(A0.enter b c (a Q rfl)).wk fun _ _ _ h=>h
theorem V5.wk{P:Program}{b st:Nat}{z:List V}{h:A2}{n:Nat}{k A:Res}(H:V5 P b st z h n A)
  (F: ∀r m f,A r m f→ ∃g l j,Wk ⟨[(0,r)],m,f⟩ ⟨[(0,g)],l,j⟩∧k g l j):V5 P b st z h n k:=by
 intro w O ρ d B s I
 obtain⟨q,a,b,c⟩:=H w O ρ d B s I
 refine⟨q,a,b,c.mono ?_⟩
 rintro e C ⟨v,r,m,f,ρ',rfl,o,p,u,G⟩
 obtain⟨g,l,j,E,t⟩:=F r m f o
 obtain⟨ρ2,x,y,D⟩:=E C O ρ' p
 refine⟨v,g,l,j,ρ2,rfl,t,x,?_,G.trans y⟩
 have:=D (fun i=>if i=0 then v else Go.undef) (fun i=>by
  cases i with
  |zero=>exact u
  |succ i=>exact .undef _) 0
 exact this
theorem V5.mono{P:Program}{b st:Nat}{x:List V}{h:A2}{n:Nat}{k d:Res}(f:V5 P b st x h n d)(e: ∀r a c,d r a c→k r a c):V5 P b st x h n k:=
 f.wk fun r a c g=>⟨r,a,c,.refl _,e r a c g⟩
theorem V5.enterK{P:Program}{b st N:Nat}{sl:List (Nat×V)}{c:List Nat}{x y:AC}{p:Option Code}{d:List V}{h:A2}{n:Nat}{Q:Res}(e:A2.get h b st=some (.loop N sl c (A2u P N x y) .ready p))(f:d.length=c.length)
  (a: ∀q,q=Q→Run ⟨P,N,[],Z2 q,some (b,st)⟩ [.code x,.beg,.code y] ⟨A8r sl c d,h,n⟩):V5 P b st d h n Q:=
 (V5.enter (Q:=Z2 Q) e f fun g=>a Q rfl g 0 (fun h=>by cases h)).wk fun _ _ _ h=>h
theorem Z2.wk{k:Res}{r r2:V}{h h2:A2}{n n2:Nat}(e:Wk ⟨[(0,r)],h,n⟩ ⟨[(0,r2)],h2,n2⟩)(d:Z2 k r2 h2 n2):Z2 k r h n:=by
 obtain⟨c,f,g,a,b⟩:=d
 exact⟨c,f,g,e.trans a,b⟩
theorem Wk.fresh(b sz:Nat)(sl:List (Nat×V))(h:A2)(n:Nat):Wk ⟨sl,h,n⟩ ⟨sl,A2.put h b n (.rows sz []),n+1⟩:=by
 intro w O ρ f
 let ρ':Nat→Loc:=fun st=>if st=n then⟨0,0,sz,0⟩else ρ st
 have d:ρ' n=⟨0,0,sz,0⟩:=by simp [ρ']
 obtain⟨j,e⟩:=HeapR.step (w':=w) (ρ':=ρ') (n':=n+1) (b:=b) (st:=n) (x:= .rows sz []) f (Nat.le_succ _) (fun st c=>by simp [ρ',Nat.ne_of_lt c]) (Nat.lt_succ_self _) (Wd.refl _)
  (fun _ _ _=>rfl) (.inl (by rw [d])) (fun _=>⟨by simp [d],by simp,fun h=>by simp [d]at h,by simp⟩)
 exact⟨ρ',j,e,fun a g i=>(g i).mono e⟩
theorem HeapR.turn{w:World}{O:Nat→Prop}{ρ:Nat→Loc}{n:Nat}{h h2:A2}(d:HeapR w O ρ n h)
  (g:Nat→Nat) (i: ∀b∈h2,∃e∈h,b.1=g e.1∧b.2.1=e.2.1∧(A6R (A8 w O ρ n h) e.2.1 e.2.2→A6R (A8 w O ρ n h) e.2.1 b.2.2)):HeapR w O ρ n h2∧Ext (A8 w O ρ n h) (A8 w O ρ n h2):=by
 have j: ∀x,Own ρ h2 x→Own ρ h x:=by
  rintro x ⟨b,a,f,v⟩
  obtain⟨e,c,_,h2,_⟩:=i b a
  exact⟨e,c,by rw [←h2];exact f,by rw [←h2];exact v⟩
 have m:Ext (A8 w O ρ n h) (A8 w O ρ n h2):=⟨rfl,Nat.le_refl _,fun _ _=>rfl,Wd.refl _,fun x _ y=>⟨rfl,fun h=>y (j x h)⟩⟩
 refine⟨⟨fun b a=> ?_,fun b a s l o f k=> ?_,d.out,fun b a f=> ?_,fun b a=> ?_,d.gl.mono m.imm⟩,m⟩
 ·obtain⟨e,c,_,h2,_⟩:=i b a
  rw [h2];exact d.lt e c
 ·obtain⟨e,c,p,h2,_⟩:=i b a
  obtain⟨u,t,q,r,_⟩:=i s l
  rw [h2]at f⊢
  rw [r]at k⊢
  exact d.inj e c u t (fun h=>o (by rw [p,q,h])) f k
 ·obtain⟨e,c,p,h2,_⟩:=i b a
  rw [h2]at f⊢
  exact d.notO e c f
 ·obtain⟨e,c,p,h2,z⟩:=i b a
  rw [h2]
  exact(z (d.blk e c)).mono m (d.lt e c) fun _=>rfl
def I3(v v2:V):Prop:= ∀E x,R E v x→R E v2 x
def A3O:List V→List V→Prop
 | [],[]=>True
 |a::r,b::s=>I3 a b∧A3O r s
 |_,_=>False
def L1(b b2:Blk):Prop:= ∀E st,A6R E st b→A6R E st b2
theorem I3.refl(v:V):I3 v v:=fun _ _ h=>h
theorem I3.sl{b b2 st i n:Nat}:I3 (.sl b st i n) (.sl b2 st i n):=fun E x h=>by
 cases h with
 |sl _ _ _ _ c e f d=>exact .sl b2 st i n c e f d
 |sl0 _ _ _ a=>exact .sl0 b2 st i a
theorem I3.sl'{b b2 st i n n2:Nat}(h:n=n2):I3 (.sl b st i n) (.sl b2 st i n2):=h ▸ .sl
theorem I3.of_eq{v a:V}(h:v=a):I3 v a:=h ▸ .refl v
theorem I3.ptr{b b2 st i n:Nat}:I3 (.ptr b st i n) (.ptr b2 st i n):=fun E x h=>by
 cases h with
 |ptr _ _ _ _ a=>exact .ptr b2 st i n a
theorem I3.mp{b b2 st:Nat}:I3 (.mp b st) (.mp b2 st):=fun E x h=>by
 cases h with
 |mp _ _ a=>exact .mp b2 st a
theorem I3.yld{b b2 st:Nat}:I3 (.yld b st) (.yld b2 st):=fun E x h=>by
 cases h with
 |yld _ _ a=>exact .yld b2 st a
theorem I3.nils{b st i:Nat}:I3 .nils (.sl b st i 0):=fun E x h=>by
 rw [h.nils_inv];exact .sl0 _ _ _ _
theorem I3.nilI:I3 .nils (.isl []):=fun E x h=>by
 rw [h.nils_inv];exact .isl0 _ _
theorem I3.undef(v:V):I3 v .undef:=fun E x h=> .undef _
theorem A3O.refl: ∀l:List V,A3O l l
 | []=>trivial
 |a::r=>⟨.refl a,A3O.refl r⟩
theorem A3O.get: ∀{l l2:List V},A3O l l2→l2.length=l.length∧ ∀(i:Nat) d,l2[i]? =some d→ ∃c,l[i]? =some c∧I3 c d
 | [],[],_=>⟨rfl,fun i c h=>by simp at h⟩
 |a::r,b::s,h=>by
  obtain⟨g,f⟩:=A3O.get h.2
  exact XX
 | [],_::_,h=>h.elim
 |_::_,[],h=>h.elim
theorem I3.agg{l l2:List V}(h:A3O l l2):I3 (.agg l) (.agg l2):=fun E x b=>by
 obtain⟨k,f⟩:=h.get
 obtain⟨p,rfl,j,n,o⟩:=b.agg_inv
 refine .agg _ p (k.trans j) n fun i c v d g=> ?_
 obtain⟨m,a,e⟩:=f i c d
 exact e E v (o i m v a g)
theorem I3.tup{l l2:List V}(h:A3O l l2):I3 (.tup l) (.tup l2):=fun E x b=>by
 obtain⟨k,g⟩:=h.get
 cases b with
 |tup _ o j n=>
  refine .tup _ o (k.trans j) fun i c v d e=> ?_
  obtain⟨m,a,f⟩:=g i c d
  exact f E v (n i m v a e)
theorem L1.refl(b:Blk):L1 b b:=fun _ _ h=>h
theorem L1.of_eq{b b2:Blk}(h:b=b2):L1 b b2:=h ▸ .refl b
theorem L1.rows{sz:Nat}{rs a:List (List V)}(e:a.length≤rs.length)(l: ∀(i:Nat) r2,a[i]? =some r2→ ∃r,rs[i]? =some r∧A3O r r2):L1 (.rows sz rs) (.rows sz a):=by
 rintro E A ⟨s,q,y,v⟩
 refine⟨s,Nat.le_trans e q,y,fun i d o=> ?_⟩
 obtain⟨r,h,b⟩:=l i d o
 obtain⟨n,u⟩:=v i r h
 obtain⟨w,t⟩:=b.get
 refine⟨w.trans n,fun j m z=> ?_⟩
 obtain⟨c,p,b⟩:=t j m z
 obtain⟨x,k,g,f⟩:=u j c p
 exact⟨x,k,g,b _ _ f⟩
theorem L1.row{sz:Nat}{r r2:List V}(a:A3O r r2):L1 (.rows sz [r]) (.rows sz [r2]):=
 .rows (Nat.le_refl _) fun i b h=>by
  cases i with
  |zero=>simp at h;subst h;exact⟨r,rfl,a⟩
  |succ i=>simp at h
theorem L1.take{sz:Nat}{rs:List (List V)}(k:Nat):L1 (.rows sz rs) (.rows sz (rs.take k)):=
 .rows zl fun i r h=>by
  rw [List.getElem?_take]at h
  split at h
  ·exact⟨r,h,.refl r⟩
  ·cases h
def A9e(sl:List (Nat×V)):List (Nat×V)→Prop
 | []=>True
 |p::r=>I3 (D9 sl p.1) p.2∧A9e sl r
def A0z(g:Nat→Nat)(h:A2):A2→Prop
 | []=>True
 |e2::r=>(∃e∈h,e2.1=g e.1∧e2.2.1=e.2.1∧L1 e.2.2 e2.2.2)∧A0z g h r
theorem A9e.get{sl:List (Nat×V)}: ∀{l:List (Nat×V)},A9e sl l→ ∀p∈l,I3 (D9 sl p.1) p.2
 | [],_,p,h=>by cases h
 |q::r,hs,p,h=>by
  rcases List.mem_cons.1 h with rfl|h
  ·exact hs.1
  ·exact A9e.get hs.2 p h
theorem A0z.get{g:Nat→Nat}{h:A2}: ∀{l:A2},A0z g h l→ ∀a∈l,∃e∈h,a.1=g e.1∧a.2.1=e.2.1∧L1 e.2.2 a.2.2
 | [],_,p,h=>by cases h
 |q::r,hs,p,h=>by
  rcases List.mem_cons.1 h with rfl|h
  ·exact hs.1
  ·exact A0z.get hs.2 p h
theorem A0z.append{g:Nat→Nat}{h:A2}: ∀{l l2:A2},A0z g h l→A0z g h l2→A0z g h (l++l2)
 | [],_,_,h=>h
 |_::_,_,h1,h2=>⟨h1.1,A0z.append h1.2 h2⟩
theorem A0z.of{g:Nat→Nat}{h:A2}: ∀{l:A2},(∀a∈l,∃e∈h,a.1=g e.1∧a.2.1=e.2.1∧L1 e.2.2 a.2.2)→A0z g h l
 | [],_=>trivial
 |q::r,h=>⟨h q List.mem_cons_self,A0z.of fun e b=>h e (List.mem_cons_of_mem _ b)⟩
theorem A0z.at{g:Nat→Nat}{h r:A2}{b b2 st:Nat}{x a:Blk}(i:Nat)(d:h[i]? =some (b,st,x))(f:b2=g b)(e:L1 x a)(c:A0z g h r):A0z g h ((b2,st,a)::r):=
 ⟨⟨_,List.mem_of_getElem? d,f,rfl,e⟩,c⟩
theorem Wk.sub{r:V}{h h2:A2}{n:Nat}(b:B2j h h2):Wk ⟨[(0,r)],h,n⟩ ⟨[(0,r)],h2,n⟩:=C1.wk ⟨fun p a=>by
 rw [List.mem_singleton.1 a];rfl,B3w.1 b,Nat.le_refl _⟩
theorem Wk.turn(g:Nat→Nat){sl sl':List (Nat×V)}{h h':A2}{n:Nat}(o:A9e sl sl')(q:A0z g h h'):Wk ⟨sl,h,n⟩ ⟨sl',h',n⟩:=by
 intro w O ρ l
 obtain⟨d,j⟩:=l.turn g fun k f=>by
  obtain⟨e,s,a,b,c⟩:=q.get k f
  exact⟨e,s,a,b,c _ _⟩
 refine⟨ρ,d,j,fun a r i=> ?_⟩
 rcases B5z (sl:=sl') i with m|p
 ·simp only [m];exact .undef _
 ·exact(o.get _ p _ _ (r i)).mono j
def Frz(st:Nat)(rs:List (List V))(v v2:V):Prop:=
 ∀E,(∀b i m x,i+m≤rs.length→R E (.sl b st i m) x→R E (.isl ((rs.drop i).take m)) x)→ ∀x,R E v x→R E v2 x
def B1m(st:Nat)(rs:List (List V)):List V→List V→Prop
 | [],[]=>True
 |a::r,b::s=>Frz st rs a b∧B1m st rs r s
 |_,_=>False
def A4D(st:Nat)(rs:List (List V))(b b2:Blk):Prop:=
 ∀E,(∀b i m x,i+m≤rs.length→R E (.sl b st i m) x→R E (.isl ((rs.drop i).take m)) x)→ ∀st',A6R E st' b→A6R E st' b2
theorem Frz.of{st:Nat}{rs:List (List V)}{v a:V}(h:I3 v a):Frz st rs v a:=fun E _ x b=>h E x b
theorem Frz.sl{st:Nat}{rs:List (List V)}{b i m:Nat}(h:i+m≤rs.length):Frz st rs (.sl b st i m) (.isl ((rs.drop i).take m)):=fun E c x a=>c b i m x h a
theorem Frz.all{st:Nat}{rs:List (List V)}{b m:Nat}(h:m=rs.length):Frz st rs (.sl b st 0 m) (.isl rs):=fun E c x a=>by
 have:=c b 0 m x zd a
 rwa [List.drop_zero,List.take_of_length_le zd]at this
theorem B1m.get{st:Nat}{rs:List (List V)}: ∀{l l2:List V},B1m st rs l l2→l2.length=l.length∧ ∀(i:Nat) d,l2[i]? =some d→ ∃c,l[i]? =some c∧Frz st rs c d
 | [],[],_=>⟨rfl,fun i c h=>by simp at h⟩
 |a::r,b::s,h=>by
  obtain⟨g,f⟩:=B1m.get h.2
  exact XX
 | [],_::_,h=>h.elim
 |_::_,[],h=>h.elim
theorem B1m.same{st:Nat}{rs:List (List V)}: ∀l:List V,B1m st rs l l
 | []=>trivial
 |a::r=>⟨.of (.refl a),B1m.same r⟩
theorem Frz.agg{st:Nat}{rs:List (List V)}{l l2:List V}(h:B1m st rs l l2):Frz st rs (.agg l) (.agg l2):=fun E q x b=>by
 obtain⟨k,f⟩:=h.get
 obtain⟨p,rfl,j,n,o⟩:=b.agg_inv
 refine .agg _ p (k.trans j) n fun i c v d g=> ?_
 obtain⟨m,a,e⟩:=f i c d
 exact e E q v (o i m v a g)
theorem Frz.tup{st:Nat}{rs:List (List V)}{l l2:List V}(h:B1m st rs l l2):Frz st rs (.tup l) (.tup l2):=fun E p x b=>by
 obtain⟨k,f⟩:=h.get
 cases b with
 |tup _ o j n=>
  refine .tup _ o (k.trans j) fun i c v d g=> ?_
  obtain⟨m,a,e⟩:=f i c d
  exact e E p v (n i m v a g)
theorem A4D.of{st:Nat}{rs:List (List V)}{b b2:Blk}(h:L1 b b2):A4D st rs b b2:=fun E _ s a=>h E s a
theorem A4D.rows{st:Nat}{f:List (List V)}{sz:Nat}{rs a:List (List V)}(e:a.length≤rs.length)(n: ∀(i:Nat) r2,a[i]? =some r2→ ∃r,rs[i]? =some r∧B1m st f r r2):A4D st f (.rows sz rs) (.rows sz a):=by
 rintro E m s ⟨v,u,B,z⟩
 refine⟨v,Nat.le_trans e u,B,fun i d q=> ?_⟩
 obtain⟨r,h,b⟩:=n i d q
 obtain⟨p,y⟩:=z i r h
 obtain⟨A,w⟩:=b.get
 refine⟨A.trans p,fun j o C=> ?_⟩
 obtain⟨c,t,b⟩:=w j o C
 obtain⟨x,l,k,g⟩:=y j c t
 exact⟨x,l,k,b _ m _ g⟩
def B9h(st:Nat)(rs:List (List V))(sl:List (Nat×V)):List (Nat×V)→Prop
 | []=>True
 |p::r=>Frz st rs (D9 sl p.1) p.2∧B9h st rs sl r
def A4E(b st:Nat)(rs:List (List V))(h:A2):A2→Prop
 | []=>True
 |e2::r=>(∃x,(e2.1,e2.2.1,x)∈h∧e2.1≠b∧A4D st rs x e2.2.2)∧A4E b st rs h r
theorem B9h.get{st:Nat}{rs:List (List V)}{sl:List (Nat×V)}: ∀{l:List (Nat×V)},B9h st rs sl l→ ∀p∈l,Frz st rs (D9 sl p.1) p.2
 | [],_,p,h=>by cases h
 |q::r,hs,p,h=>by
  rcases List.mem_cons.1 h with rfl|h
  ·exact hs.1
  ·exact B9h.get hs.2 p h
theorem A4E.get{b st:Nat}{rs:List (List V)}{h:A2}: ∀{l:A2},A4E b st rs h l→ ∀e∈l,∃x,(e.1,e.2.1,x)∈h∧e.1≠b∧A4D st rs x e.2.2
 | [],_,p,h=>by cases h
 |q::r,hs,p,h=>by
  rcases List.mem_cons.1 h with rfl|h
  ·exact hs.1
  ·exact A4E.get hs.2 p h
theorem A4E.at{b st:Nat}{rs:List (List V)}{h r:A2}{b2 st2:Nat}{x a:Blk}(i:Nat)(d:h[i]? =some (b2,st2,x))(f:b2≠b)(e:A4D st rs x a)(c:A4E b st rs h r):A4E b st rs h ((b2,st2,a)::r):=
 ⟨⟨_,List.mem_of_getElem? d,f,e⟩,c⟩
theorem Wk.freeze{b st sz:Nat}{rs:List (List V)}{sl sl':List (Nat×V)}{h h':A2}{n:Nat}(J:(b,st,.rows sz rs)∈h)(hs:B9h st rs sl sl')(hh:A4E b st rs h h'):Wk ⟨sl,h,n⟩ ⟨sl',h',n⟩:=by
 intro w O ρ A
 obtain⟨B,l⟩:=A.drop (h':=h.filter fun e=> !(Nat.beq e.1 b)) fun e N=>(List.mem_filter.1 N).1
 have v: ∀e,e∈h.filter (fun e=> !(Nat.beq e.1 b))↔e∈h∧e.1≠b:=fun e=>A2.mem_del
 generalize h.filter (fun e=> !(Nat.beq e.1 b))=p at B l v
 have s:=(A.blk _ J).mono l (A.lt _ J) fun _=>rfl
 simp only at s
 obtain⟨L,hlen,T,g⟩:=s
 have hE: ∀b i m x,i+m≤rs.length→R (A8 w O ρ n p) (.sl b st i m) x→R (A8 w O ρ n p) (.isl ((rs.drop i).take m)) x:=by
  intro b' i m x hle hx
  have hl:((rs.drop i).take m).length=m:=by simp;omega
  cases hx with
  |sl0 _ _ _ a=>rw [List.take_zero];exact .isl0 _ _
  | sl _ _ _ _ H hst hn hc=>
   by_cases Z:m=0
   ·subst Z;rw [List.take_zero];exact .isl0 _ _
   have z:(ρ st).cap≠0:=by have hc':i+H≤(ρ st).cap:=hc;omega
   have W: ¬Own ρ p (ρ st).blk:=by
    rintro⟨e,N,K,S⟩
    obtain⟨M,u⟩:=(v e).1 N
    exact A.inj e M _ J u K z S
   have Q:=A.notO _ J z
   have C:(ρ st).sz=sz:=L
   have G: ∀{q:Nat} {r:List V},((rs.drop i).take m)[q]? =some r→rs[i+q]? =some r:=by
    intro q r d
    rw [List.getElem?_take]at d
    split at d
    ·rwa [List.getElem?_drop]at d
    ·cases d
   have F: ∀(q j:Nat),∃y,∀r c,((rs.drop i).take m)[q]? =some r→r[j]? =some c→w.cell? ⟨(ρ st).blk,(ρ st).off+i*(ρ st).sz+q*sz+j,none⟩=some y∧y.oneCell'=true∧R (A8 w O ρ n p) c y:=by
    intro q j
    cases d:((rs.drop i).take m)[q]? with
    |none=>exact⟨Go.undef,fun r c h=>by cases h⟩
    | some r=>
     cases t:r[j]? with
     |none=>exact⟨Go.undef,fun D c h h'=>by injection h with h;subst h;rw [t]at h';cases h'⟩
     |some c=>
      obtain⟨y,p,h2,h3⟩:=(g (i+q) r (G d)).2 j c t
      refine⟨y,fun D c' Y o=> ?_⟩
      injection Y with Y
      subst Y
      rw [t]at o
      injection o with o
      subst o
      refine⟨?_,h2,h3⟩
      rw [Nat.add_mul,←Nat.add_assoc]at p
      rw [C]
      exact p
   let f:=fun q j=>(F q j).choose
   have P:=fun q j=>(F q j).choose_spec
   have k:=R.isl (E:=A8 w O ρ n p) ((rs.drop i).take m) ⟨(ρ st).blk,(ρ st).off+i*(ρ st).sz,none⟩ H sz f rfl (by rw [hl];exact hn) (fun q r d=>(g _ r (G d)).1)
    (fun q r j c d t=>⟨(P q j r c d t).1,(P q j r c d t).2.1,W,Q⟩) (fun q r j c d t=>(P q j r c d t).2.2)
   rw [hl]at k
   exact k
 obtain⟨U,I⟩:=B.turn (h2:=h') id fun o u=>by
  obtain⟨x,a,b1,c⟩:=hh.get o u
  exact⟨(o.1,o.2.1,x),(v _).2 ⟨a,b1⟩,rfl,rfl,c _ hE _⟩
 refine⟨ρ,U,l.trans I,fun a ha i=> ?_⟩
 rcases B5z (sl:=sl') i with hu|X
 ·simp only [hu];exact .undef _
 ·exact(hs.get _ X _ hE _ ((ha i).mono l)).mono I
theorem Pure.ofPtr{P:Program}{f:FuncId}{G:List V}{a:List V}(T: ∀c∈a,∃b,c= .bool b)
  (h:A0 P f G [] 0 fun r h _=> ∃b s p,r= .ptr b s 0 0∧A2.get h b s=some (.rows p [a])):Pure P f G (.iptr [a] 0 0):=by
 intro w O k N A J
 have S:HeapR w O (fun _=>default) 0 []:=⟨by simp,by simp,N,by simp,by simp,A.mono (D0I w O _).imm⟩
 refine(h w O _ k S ⟨J.1,fun i c v X z=>(J.2 i c v X z).mono (D0I w O _)⟩).mono ?_
 rintro e F ⟨v,r,h',n',ρ',rfl,W,n,B,H⟩
 refine⟨v,rfl,?_,H.wd,fun x C=>(H.blk x C fun⟨e,Q,_⟩=>by cases Q).1⟩
 obtain⟨b,s,p,rfl,K⟩:=W
 obtain⟨Y,I,h3,L⟩:=n.blk _ (A2.mem_of_get K)
 simp only at Y I h3 L
 obtain⟨U,Z⟩:=L 0 a rfl
 have q:(ρ' s).cap≠0:=by simp at I;omega
 have l: ¬O (ρ' s).blk:=n.notO _ (A2.mem_of_get K) q
 have z:=B.ptr_inv.2
 subst z
 have g: ∀(j:Nat),∃y,∀c,a[j]? =some c→F.cell? ⟨(ρ' s).blk,(ρ' s).off+0*p+j,none⟩=some y∧y.oneCell'=true∧ ∃b,c= .bool b∧y= .bool b:=by
  intro j
  cases m:a[j]? with
  |none=>exact⟨Go.undef,fun c h=>by cases h⟩
  |some c=>
   obtain⟨y,u,D,q3⟩:=Z j c m
   obtain⟨b,rfl⟩:=T c (List.mem_of_getElem? m)
   refine⟨y,fun c' e=> ?_⟩
   injection e with e
   subst e
   exact⟨u,D,b,rfl,q3.bool_inv⟩
 have o: ∀(i:Nat) r,[a][i]? =some r→i=0∧r=a:=fun i r d=>by
  cases i with
  |zero=>simp at d;exact⟨rfl,d.symm⟩
  |succ i=>simp at d
 have t:=R.iptr (E:=A6t F O) [a] 0 0 ⟨(ρ' s).blk,(ρ' s).off,none⟩ p (fun _ j=>(g j).choose) rfl (fun i r d=>by rw [(o i r d).2];exact U) (fun i r j c d m=>by
  obtain⟨rfl,rfl⟩:=o i r d
  obtain⟨u,D,_⟩:=(g j).choose_spec c m
  exact⟨u,D,fun h=>h,l⟩) (fun i r j c d m=>by
  obtain⟨rfl,rfl⟩:=o i r d
  obtain⟨_,_,b,e1,M⟩:=(g j).choose_spec c m
  rw [e1]
  rw [M]
  exact .bool b)
 simpa using t
def B8s(sl:List (Nat×V)):List Nat→List (Nat×V)
 | []=> []
 |i::l=>(i,D9 sl i)::B8s sl l
attribute [go_sem] B8s
theorem B8t{sl:List (Nat×V)}: ∀{l:List Nat} {p:Nat×V},p∈B8s sl l→p.2=D9 sl p.1
 | [],p,h=>by cases h
 |i::l,p,h=>by
  rcases List.mem_cons.1 h with rfl|h
  ·rfl
  ·exact B8t h
theorem Run.keep(l:List Nat){c:Cf}{k:List AItem}{sl:List (Nat×V)}{h:A2}{n:Nat}(a:Run c k ⟨B8s sl l,h,n⟩):Run c k ⟨sl,h,n⟩:=
 Run.weak (s':=⟨B8s sl l,h,n⟩) ⟨fun p b=>B8t b,fun _ h=>h,Nat.le_refl _⟩ a
theorem A0.sub{P:Program}{f:FuncId}{x:List V}{h:A2}{n:Nat}{k p:Res}(u:A0 P f x h n p)
  (s: ∀r g a,p r g a→ ∃d,(∀e∈d,e∈g)∧k r d a):A0 P f x h n k:=by
 intro w O ρ c q z
 refine(u w O ρ c q z).mono ?_
 rintro e A ⟨v,r,g,a,ρ',rfl,i,j,m,t⟩
 obtain⟨d,y,l⟩:=s r g a i
 obtain⟨o,b⟩:=j.drop y
 exact⟨v,r,d,a,ρ',rfl,l,o,m.mono b,t.trans b⟩
theorem A0.mono{P:Program}{f:FuncId}{x:List V}{h:A2}{n:Nat}{k c:Res}(e:A0 P f x h n c)
  (d: ∀r a b,c r a b→k r a b):A0 P f x h n k:=e.sub fun r a b g=>⟨a,fun _ h=>h,d r a b g⟩
def A2t(h:A2)(b:Nat):Prop:= ∀e∈h,e.1≠b
theorem A0.use{P:Program}{f:FuncId}{x:List V}{h d rest:A2}{n:Nat}{k i:Res}(o:A0 P f x d n i)(p:h=rest++d)(g: ∀e∈rest,∀m∈d,m.1≠e.1)
  (l: ∀r a b,n≤b→i r a b→k r (rest++a) b):A0 P f x h n k:=by
 subst p
 refine(A0.frame (rest:=rest) (k:=fun r a b=> ∃j,(∀e∈j,e∈a)∧k r j b) o (fun e c=>List.mem_append.2 (.inr c)) (fun e c=>⟨List.mem_append.2 (.inl c),g e c⟩) ?_).sub fun r a b h=>h
 intro r a b q d
 refine⟨rest++a,fun e c=> ?_,l r a b q d⟩
 rcases List.mem_append.1 c with h|h
 ·exact List.mem_append.2 (.inr h)
 ·exact List.mem_append.2 (.inl h)
theorem A2t.del{h:A2}{b:Nat}(c:A2t h b):A2.del h b=h:=by
 unfold A2.del
 rw [List.filter_eq_self]
 intro e a
 have:=c e a
 cases hb:Nat.beq e.1 b with
 |false=>rfl
 |true=>exact(this (Nat.eq_of_beq_eq_true hb)).elim
theorem A2t.nil{b:Nat}:A2t [] b:=fun _ h=>by cases h
theorem A2t.cons{h:A2}{e:Nat×Nat×Blk}{b:Nat}(c:e.1≠b)(h2:A2t h b):A2t (e::h) b:=fun x a=>by
 rcases List.mem_cons.1 a with rfl|a
 ·exact c
 ·exact h2 x a
theorem A2t.append{h h':A2}{b:Nat}(c:A2t h b)(h2:A2t h' b):A2t (h++h') b:=fun x a=>by
 rcases List.mem_append.1 a with a|a
 ·exact c x a
 ·exact h2 x a
def C7P(h1 rest:A2):Bool:=rest.all fun e=>h1.all fun e'=> !(Nat.beq e'.1 e.1)
def B2S(h:A2):List Nat→A2
 | []=> []
 |i::r=>match h[i]? with
  |some e=>e::B2S h r
  |none=>B2S h r
attribute [go_sem] B2S
theorem B0J{h:A2}: ∀{l:List Nat} {e:Nat×Nat×Blk},e∈B2S h l→e∈h
 | [],_,a=>by cases a
 | i::r,e,a=>by
  simp only [B2S]at a
  split at a
  ·rename_i x b
   rcases List.mem_cons.1 a with rfl|a
   ·exact List.mem_of_getElem? b
   ·exact B0J a
  ·exact B0J a
theorem A0.at(l l2:List Nat){P:Program}{f:FuncId}{x:List V}{h c:A2}{n:Nat}{k i:Res}(o:A0 P f x c n i)(a:B2S h l=c)(b:C7P (B2S h l) (B2S h l2)=true)
  (m: ∀r j d,n≤d→i r j d→k r (j++B2S h l2) d):A0 P f x h n k:=by
 subst a
 refine A0.frame o (fun e a=>B0J a) (fun e a=>⟨B0J a,fun p g=> ?_⟩) m
 unfold C7P at b
 have c:=List.all_eq_true.1 (List.all_eq_true.1 b e a) p g
 intro q
 rw [q,Nat.beq_refl]at c
 cases c
theorem A0.out{P:Program}{f:FuncId}{x:List V}{h:A2}{n:Nat}{k b:Res}(g:A0 P f x [] n b)(d: ∀r c a,n≤a→b r c a→k r (c++h) a):A0 P f x h n k:=
 A0.frame g zf (fun e i=>⟨i,by simp⟩) d
end
section
theorem R.flatTo{E E':Env}(y:E.n≤E'.n)(w: ∀d,d<E.n→E'.ρ d=E.ρ d){v:V}{x:Value}(h:R E v x)(g:A4v v=true):R E' v x:=by
 induction h with
 |undef v=>exact .undef v
 |bool b=>exact .bool b
 |int k n=>exact .int k n
 |str s=>exact .str s
 |agg r u o F _ m=>rw [A4v]at g;exact .agg r u o F fun i c v e q=>m i c v e q (A1K g e)
 |tup r u o _ m=>rw [A4v]at g;exact .tup r u o fun i c v e q=>m i c v e q (A1K g e)
 |nilp=>exact .nilp
 |ptr b d i j h=>rw [←w d h];exact .ptr b d i j (Nat.lt_of_lt_of_le h y)
 |nils=>exact .nils
 |sl b d i n l h z e=>
  rw [←w d h]at e⊢
  exact .sl b d i n l (Nat.lt_of_lt_of_le h y) z e
 |sl0 b d i a=>exact .sl0 b d i a
 |isl C p l G f J D B A _ m=>
  rw [A4v]at g
  have:C= []:=by simpa using g
  subst this
  exact .isl0 _ _
 |isl0 a l=>exact .isl0 a l
 |iptr C I H p G f=>rw [A4v]at g;cases g
 |nilm=>exact .nilm
 |mp b d h=>rw [←w d h];exact .mp b d (Nat.lt_of_lt_of_le h y)
 |yld b d h=>rw [←w d h];exact .yld b d (Nat.lt_of_lt_of_le h y)
 |fn f r u o _ m=>rw [A4v]at g;exact .fn f r u o fun i c v e q=>m i c v e q (A1K g e)
 |cst v=>exact .cst v
 |err t v=>exact .err t v
 |anyi k n=>exact .anyi k n
def D1U:Blk→Prop
 | .rows _ rs=> ∀r∈rs,flatL r=true
 |_=>False
theorem A6R.flatTo{E E':Env}(e:E'.w=E.w)(z:E.n=E'.n)(d:E'.ρ=E.ρ){st:Nat}{b:Blk}(h:A6R E st b)(a:D1U b):A6R E' st b:=by
 cases b with
 |rows D C=>
  obtain⟨t,q,w,u⟩:=h
  refine⟨by rw [d];exact t,by rw [d];exact q,by rw [d,e];exact w,fun i r f=> ?_⟩
  obtain⟨o,v⟩:=u i r f
  refine⟨o,fun j c k=> ?_⟩
  obtain⟨x,n,m,l⟩:=v j c k
  refine⟨x,by rw [e,d];exact n,m,l.flatTo zd (fun st _=>by rw [d]) (A1K (a r (List.mem_of_getElem? f)) k)⟩
 |map A=>exact a.elim
 |loop N B y p s g=>exact a.elim
 |mapb=>exact a.elim
 |iter=>exact a.elim
 |raw=>exact a.elim
theorem A0.lend{P:Program}{f:FuncId}{W I:List V}{h:A2}{n:Nat}{k Y:Res}(b:A0 P f W [] n Y)(d:Nat)(L:I.map (frz d h)=W)
  (hk: ∀r p s,n≤s→Y r p s→A4v r=true∧(∀e∈p,D1U e.2.2)∧k r (p++h) s):A0 P f I h n k:=by
 intro w O ρ D t X
 have l: ∀x,¬Own ρ [] x:=fun x ⟨e,a,_⟩=>by cases a
 have hi:Imm (A6t w O) (A8 w O ρ n []):=⟨Nat.zero_le _,fun st hs=>absurd hs (Nat.not_lt_zero _),Nat.le_refl _,fun x _ z G=>⟨rfl,l x,G⟩⟩
 have T:HeapR w O ρ n []:=⟨fun e a=>(List.not_mem_nil a).elim,fun e a=>(List.not_mem_nil a).elim,t.out,fun e a=>(List.not_mem_nil a).elim,fun e a=>(List.not_mem_nil a).elim,
  t.gl.to (Nat.le_refl _) fun x _ h1 h2=>⟨rfl,l x,h2⟩⟩
 refine(b w O ρ D T ?_).mono ?_
 ·refine⟨by rw [←L,List.length_map];exact X.1,fun i c v b hv=> ?_⟩
  rw [←L,List.getElem?_map,Option.map_eq_some_iff]at b
  obtain⟨c0,N,rfl⟩:=b
  exact(R.frz t d (X.2 i c0 v N hv)).monoI hi
 rintro e J ⟨v,r,p,s,ρ',rfl,M,u,U,q⟩
 obtain⟨f1,Z,S⟩:=hk r p s q.n M
 have C: ∀e∈h,e.2.1<n:=t.lt
 have F: ∀e∈h,ρ' e.2.1=ρ e.2.1:=fun e a=>q.ρ _ (C e a)
 have j: ∀x,Own ρ h x→x<w.heap.size:=fun x h=>t.real h
 have H: ∀x,Own ρ' (p++h) x→Own ρ' p x∨Own ρ h x:=by
  rintro x ⟨e,a,b,Q⟩
  rcases List.mem_append.1 a with a|a
  ·exact .inl ⟨e,a,b,Q⟩
  ·rw [F e a]at b Q
   exact .inr ⟨e,a,b,Q⟩
 have m:Ext (A8 w O ρ n h) (A8 J O ρ' s (p++h)):=by
  refine⟨rfl,q.n,q.ρ,q.wd,fun x y z=> ?_⟩
  refine⟨(q.blk x y (l x)).1,fun h=> ?_⟩
  rcases H x h with h|h
  ·exact(q.blk x y (l x)).2 h
  ·exact z h
 refine⟨v,r,p++h,s,ρ',rfl,S,⟨?_,?_,fun x y=>Nat.lt_of_lt_of_le (t.out x y) q.size,?_,?_,t.gl.mono m.imm⟩,R.flatTo (E:=A8 J O ρ' s p) (E':=A8 J O ρ' s (p++h)) (Nat.le_refl _) (fun _ _=>rfl) U f1,m⟩
 ·intro e a
  rcases List.mem_append.1 a with a|a
  ·exact u.lt e a
  ·exact Nat.lt_of_lt_of_le (C e a) q.n
 ·intro e a B g K b o
  rcases List.mem_append.1 a with a|a<;>rcases List.mem_append.1 g with g|g
  ·exact u.inj e a B g K b o
  ·rw [F B g]at o⊢
   intro A
   have z:Own ρ h (ρ B.2.1).blk:=⟨B,g,o,rfl⟩
   exact(q.blk _ (j _ z) (l _)).2 ⟨e,a,b,A⟩
  ·rw [F e a]at b⊢
   intro A
   have z:Own ρ h (ρ e.2.1).blk:=⟨e,a,b,rfl⟩
   exact(q.blk _ (j _ z) (l _)).2 ⟨B,g,o,A.symm⟩
  ·rw [F e a]at b⊢
   rw [F B g]at o⊢
   exact t.inj e a B g K b o
 ·intro e a b G
  rcases List.mem_append.1 a with a|a
  ·exact u.notO e a b G
  ·rw [F e a]at b G
   exact t.notO e a b G
 ·intro e a
  rcases List.mem_append.1 a with a|a
  ·exact A6R.flatTo (E:=A8 J O ρ' s p) (E':=A8 J O ρ' s (p++h)) rfl rfl rfl (u.blk e a) (Z e a)
  ·refine(t.blk e a).monoI m.imm (C e a) fun b=> ?_
   have z:Own ρ h (ρ e.2.1).blk:=⟨e,a,b,rfl⟩
   exact(q.blk _ (j _ z) (l _)).1
theorem A4D.map{st:Nat}{f:List (List V)}{es e:List (V×V)}(d:e.length=es.length)(g: ∀(i:Nat) a,e[i]? =some a→ ∃p,es[i]? =some p∧Frz st f p.1 a.1∧Frz st f p.2 a.2):A4D st f (.map es) (.map e):=by
 rintro E h s ⟨r,b,c,q,y,x,l⟩
 refine⟨r,b,c,q,y.trans d.symm,fun i a m o w=> ?_,l⟩
 obtain⟨p,v,j,u⟩:=g i a o
 obtain⟨t,n,k⟩:=x i p m v w
 exact⟨j _ h _ t,u _ h _ n,k⟩
theorem A4D.mapF{st:Nat}{f:List (List V)}{es:List (V×V)}(g:V×V→V×V)(b: ∀p∈es,Frz st f p.1 (g p).1∧Frz st f p.2 (g p).2):A4D st f (.map es) (.map (es.map g)):=by
 refine A4D.map zf fun i c h=> ?_
 rw [List.getElem?_map,Option.map_eq_some_iff]at h
 obtain⟨p,a,rfl⟩:=h
 exact⟨p,a,b p (List.mem_of_getElem? a)⟩
def t6(F:Nat→List (List V))(S:Nat→Nat)(i:Nat):Nat×Nat×Blk:=(1000000000000+i,S i,.rows 1 (F i))
def A1y(F:Nat→List (List V))(S:Nat→Nat)(m:Nat):A2:=(List.range m).map (t6 F S)
theorem A0W{F:Nat→List (List V)}{S:Nat→Nat}{m:Nat}{e:Nat×Nat×Blk}:e∈A1y F S m↔ ∃i,i<m∧t6 F S i=e:=by
 simp only [A1y,List.mem_map,List.mem_range]
theorem B8h{F:Nat→List (List V)}{S:Nat→Nat}:A1y F S 0= []:=rfl
theorem C6r{F:Nat→List (List V)}{S:Nat→Nat}{m:Nat}:A1y F S (m+1)=A1y F S m++ [t6 F S m]:=by
 simp [A1y,List.range_succ]
theorem B5t{k i:Nat}(h:k<1000000000000):Nat.beq k (1000000000000+i)=false:=by
 cases hb:Nat.beq k (1000000000000+i)with
 |false=>rfl
 |true=>have:=Nat.eq_of_beq_eq_true hb;omega
theorem B5K{k i:Nat}(h:k<1000000000000):Nat.beq (1000000000000+i) k=false:=by
 cases hb:Nat.beq (1000000000000+i) k with
 |false=>rfl
 |true=>have:=Nat.eq_of_beq_eq_true hb;omega
theorem B2y{l:A2}{b st:Nat}: ∀{h:A2},(∀e∈h,e.1≠b)→A2.get (h++l) b st=A2.get l b st
 | [],_=>rfl
 | e::r,hn=>by
  have c:Nat.beq e.1 b=false:=by
   cases hb:Nat.beq e.1 b with
   |false=>rfl
   |true=>exact absurd (Nat.eq_of_beq_eq_true hb) (hn e List.mem_cons_self)
  rw [List.cons_append,A2.get,c,cond_false]
  exact B2y fun x a=>hn x (List.mem_cons_of_mem _ a)
theorem B2z{l:A2}{b st:Nat}{x:Blk}: ∀{h:A2},A2.get h b st=some x→A2.get (h++l) b st=some x
 | [],h=>by cases h
 |e::r,h=>by
  rw [List.cons_append,A2.get]
  rw [A2.get]at h
  cases hb:Nat.beq e.1 b with
  |true=>rw [hb]at h;exact h
  |false=>rw [hb]at h;exact B2z h
theorem B2q{F:Nat→List (List V)}{S:Nat→Nat}{m i:Nat}(h:i<m):A2.get (A1y F S m) (1000000000000+i) (S i)=some (.rows 1 (F i)):=by
 induction m with
 |zero=>omega
 | succ m a=>
  rw [C6r]
  by_cases c:i<m
  ·exact B2z (a c)
  ·obtain rfl:i=m:=by omega
   rw [B2y (fun e b=>by
    obtain⟨j,d,rfl⟩:=A0W.1 b
    simp only [t6];omega)]
   simp [A2.get,t6]
theorem A6Y{F:Nat→List (List V)}{S:Nat→Nat}{m b:Nat}(h:b<1000000000000):A2.del (A1y F S m) b=A1y F S m:=by
 refine List.filter_eq_self.2 fun e a=> ?_
 obtain⟨j,c,rfl⟩:=A0W.1 a
 simp only [t6,B5K h,Bool.not_false]
def D0f(F:Nat→List (List V))(i:Nat)(X:List (List V)):Nat→List (List V):=fun j=>if j=i then X else F j
theorem C1c{F:Nat→List (List V)}{S:Nat→Nat}{m i:Nat}{X:List (List V)}{e:Nat×Nat×Blk}(h:e∈A1y (D0f F i X) S m):e=(1000000000000+i,S i,.rows 1 X)∨e∈A2.del (A1y F S m) (1000000000000+i):=by
 obtain⟨j,a,rfl⟩:=A0W.1 h
 by_cases c:j=i
 ·subst c;left;simp [t6,D0f]
 ·right
  refine A2.mem_del.2 ⟨A0W.2 ⟨j,a,by simp [t6,D0f,c]⟩,by simp only [t6];omega⟩
theorem C1.of{s s':St}(a:A3d s.sl s'.sl)(h2: ∀e∈s'.h,e∈s.h)(h:s.n≤s'.n):C1 s s':=⟨F3.1 a,h2,h⟩
theorem B9h.of{st:Nat}{rs:List (List V)}{sl:List (Nat×V)}: ∀{l:List (Nat×V)},(∀p∈l,p.2=D9 sl p.1)→B9h st rs sl l
 | [],_=>trivial
 |p::r,h=>⟨Frz.of (I3.of_eq (h p List.mem_cons_self).symm),B9h.of fun q a=>h q (List.mem_cons_of_mem _ a)⟩
theorem A4E.of{b st:Nat}{rs:List (List V)}{h:A2}: ∀{l:A2},(∀e∈l,e∈h∧e.1≠b)→A4E b st rs h l
 | [],_=>trivial
 |e::r,hm=>⟨⟨e.2.2,(hm e List.mem_cons_self).1,(hm e List.mem_cons_self).2,A4D.of (.refl _)⟩,A4E.of fun x a=>hm x (List.mem_cons_of_mem _ a)⟩
theorem A9e.of{sl:List (Nat×V)}: ∀{l:List (Nat×V)},(∀p∈l,p.2=D9 sl p.1)→A9e sl l
 | [],_=>trivial
 |p::r,h=>⟨I3.of_eq (h p List.mem_cons_self).symm,A9e.of fun q a=>h q (List.mem_cons_of_mem _ a)⟩
theorem Wk.cell{b st b2 st2 a k n:Nat}{R T:List (List V)}{X:A2}{sl sl':List (Nat×V)}(m:A3d sl sl')(g:b2≠b)(j: ∀e∈X,e.1≠b)(f:k=R.length):
  Wk ⟨sl,(b,st,.rows 1 R)::(b2,st2,.rows 1 (T.set a [.sl b st 0 k]))::X,n⟩ ⟨sl',(b2,st2,.rows 1 (T.set a [.isl R]))::X,n⟩:=by
 refine Wk.freeze (b:=b) (st:=st) (sz:=1) (rs:=R) List.mem_cons_self (B9h.of (F3.1 m)) (.at 1 rfl g (A4D.rows zf fun i r h=> ?_) (A4E.of fun e d=>⟨by simp [d],j e d⟩))
 rw [List.getElem?_set]at h⊢
 by_cases c:a=i
 ·subst c
  rw [if_pos rfl]at h⊢
  split at h
  ·injection h with h
   subst h
   rename_i l
   exact⟨[.sl b st 0 k],by rw [if_pos l],⟨Frz.all f,trivial⟩⟩
  ·cases h
 ·rw [if_neg c]at h⊢
  exact⟨r,h,B1m.same r⟩
theorem Wk.cell0{b2 st2 a n:Nat}{T:List (List V)}{X:A2}{sl sl':List (Nat×V)}(f:A3d sl sl')(b:T[a]? =some [.nils]):
  Wk ⟨sl,(b2,st2,.rows 1 T)::X,n⟩ ⟨sl',(b2,st2,.rows 1 (T.set a [.isl []]))::X,n⟩:=by
 refine Wk.turn id (A9e.of (F3.1 f)) (.at 0 rfl rfl (L1.rows zf fun i r h=> ?_) (A0z.of fun e d=>⟨e,by simp [d],rfl,rfl,.refl _⟩))
 rw [List.getElem?_set]at h
 by_cases c:a=i
 ·subst c
  rw [if_pos rfl]at h
  split at h
  ·injection h with h
   subst h
   exact⟨_,b,⟨I3.nilI,trivial⟩⟩
  ·cases h
 ·rw [if_neg c]at h
  exact⟨r,h,A3O.refl r⟩
theorem B8g{F:Nat→List (List V)}{S:Nat→Nat}{a st b:Nat}{B:List (List V)}{g:Nat→Nat}{h:A2}(f:F a=B)(l:g b=1000000000000+a)(d: ∀j,j<a→g (1000000000000+j)=1000000000000+j)
  (k:(b,st,.rows 1 B)∈h) (n: ∀e∈A1y F S a,e∈h):A0z g h (A1y F (fun i=>if i=a then st else S i) (a+1)):=by
 refine A0z.of fun o m=> ?_
 obtain⟨j,p,rfl⟩:=A0W.1 m
 by_cases c:j=a
 ·subst c
  exact⟨_,k,by simp [t6,l],by simp [t6],L1.of_eq (by simp [t6,f])⟩
 ·exact⟨t6 F S j,n _ (A0W.2 ⟨j,by omega,rfl⟩),by simp only [t6];rw [d j zd],by simp [t6,c],.refl _⟩
theorem L1.set{T:List (List V)}{a b b2 st k:Nat}:L1 (.rows 1 (T.set a [.sl b st 0 k])) (.rows 1 (T.set a [.sl b2 st 0 k])):=
 L1.rows zf fun i r h=>by
  rw [List.getElem?_set]at h⊢
  by_cases c:a=i
  ·subst c
   rw [if_pos rfl]at h⊢
   split at h
   ·injection h with h
    subst h
    rename_i d
    exact⟨[.sl b st 0 k],by rw [if_pos d],⟨I3.sl,trivial⟩⟩
   ·cases h
  ·rw [if_neg c]at h⊢
   exact⟨r,h,A3O.refl r⟩
def Z1(es:List (V×V)):Prop:= ∀e∈es,∃z,e.1= .int .i64 z
theorem Z1.nil:Z1 []:=fun e h=>by cases h
theorem A4O(a b:Int):A5W (.int .i64 a) (.int .i64 b)=some (decide (a=b)):=rfl
theorem Z1.ok: ∀{es:List (V×V)} (h:Z1 es) (k:Int),A5X (.int .i64 k) es
 | [],_,_=>trivial
 |e::r,h,k=>by
  obtain⟨z,b⟩:=h e List.mem_cons_self
  exact⟨by rw [b];rfl,Z1.ok (fun x a=>h x (List.mem_cons_of_mem _ a)) k⟩
theorem Z1.set: ∀{es:List (V×V)} (h:Z1 es) (k:Int) (v:V),Z1 (A7b (.int .i64 k) v es)
 | [],_,k,v=>fun e b=>by rw [A7b]at b;rw [List.mem_singleton.1 b];exact⟨k,rfl⟩
 | e::r,h,k,v=>by
  have i:=Z1.set (fun x a=>h x (List.mem_cons_of_mem _ a):Z1 r) k v
  rw [A7b]
  cases(A5W (.int .i64 k) e.1).getD false with
  |true=>
   intro x a
   rcases List.mem_cons.1 a with rfl|a
   ·exact⟨k,rfl⟩
   ·exact h x (List.mem_cons_of_mem _ a)
  |false=>
   intro x a
   rcases List.mem_cons.1 a with rfl|a
   ·exact h x List.mem_cons_self
   ·exact i x a
theorem B1D: ∀{es:List (V×V)} (h:Z1 es) (k a:Int) (v:V),u7 (.int .i64 a) (A7b (.int .i64 k) v es)=if a=k then some v else u7 (.int .i64 a) es
 | [],_,k,a,v=>by
  simp only [A7b,u7,A4O,Option.getD_some]
  by_cases c:a=k<;>simp [c]
 | e::r,h,k,a,v=>by
  obtain⟨z,d⟩:=h e List.mem_cons_self
  have i:=B1D (fun x f=>h x (List.mem_cons_of_mem _ f):Z1 r) k a v
  obtain⟨j,g⟩:=e
  simp only at d
  subst d
  simp only [A7b,A4O,Option.getD_some]
  by_cases c:k=z
  ·subst c
   simp only [decide_true,cond_true,u7,A4O,Option.getD_some]
   by_cases b:a=k<;>simp [b]
  ·simp only [c,decide_false,cond_false,u7,A4O,Option.getD_some]
   by_cases b:a=z
   ·subst b
    have: ¬a=k:=fun e=>c e.symm
    simp [this]
   ·simp only [b,decide_false,cond_false]
    exact i
structure MSet(es:List (V×V))(S:Int→Bool):Prop where
 keys:Z1 es
 find: ∀k,u7 (.int .i64 k) es=if S k then some (.bool true)else none
theorem MSet.put{es:List (V×V)}{S:Int→Bool}(h:MSet es S)(z:Int):MSet (A7b (.int .i64 z) (.bool true) es) fun k=>S k||decide (k=z):=
 ⟨h.keys.set z _,fun k=>by
  rw [B1D h.keys,h.find]
  by_cases c:k=z
  ·simp [c]
  ·simp [c]⟩
theorem MSet.of{es:List (V×V)}{S T:Int→Bool}(h:MSet es S)(e:S=T):MSet es T:=e ▸ h
theorem MSet.nil:MSet [] fun _=>false:=⟨.nil,fun k=>rfl⟩
structure MNum(es:List (V×V))(f:Int→Option Nat):Prop where
 keys:Z1 es
 find: ∀k,u7 (.int .i64 k) es=(f k).map fun j=> .int .i64 (j:Nat)
theorem MNum.put{es:List (V×V)}{f:Int→Option Nat}(h:MNum es f)(z:Int)(n:Nat):MNum (A7b (.int .i64 z) (.int .i64 n) es) fun k=>if k=z then some n else f k:=
 ⟨h.keys.set z _,fun k=>by
  rw [B1D h.keys,h.find]
  by_cases c:k=z
  ·simp [c]
  ·simp [c]⟩
theorem MNum.of{es:List (V×V)}{f g:Int→Option Nat}(h:MNum es f)(e:f=g):MNum es g:=e ▸ h
theorem MNum.nil:MNum [] fun _=>none:=⟨.nil,fun k=>rfl⟩
end
section
abbrev t8:=Option (V×A2×Nat)
def K2(v:V)(h:A2)(n:Nat):t8:=some (v,h,n)
def B1H(o:Option V)(h:A2)(n:Nat):t8:=
 match o with
 |some v=>K2 v h n
 |none=>none
def gE(b:Bool)(r:t8):t8:=bif b then r else none
def Good(o:t8)(k:Res):Prop:= ∃x,o=some x∧k x.1 x.2.1 x.2.2
theorem Good.one{v:V}{h:A2}{n:Nat}{k:Res}(c:Good (K2 v h n) k):k v h n:=by
 obtain⟨l,a,b⟩:=c
 injection a with a
 subst a
 exact b
theorem Good.opt{o:Option V}{h:A2}{n:Nat}{k:Res}(a:Good (B1H o h n) k):S7 o k h n:=by
 cases o with
 |none=>obtain⟨l,b,_⟩:=a;cases b
 |some v=>exact Good.one a
theorem Good.g{b:Bool}{o:t8}{k:Res}(h:Good (gE b o) k):b=true∧Good o k:=by
 cases b with
 |false=>obtain⟨l,a,_⟩:=h;cases a
 |true=>exact⟨rfl,h⟩
theorem Good.no{k:Res}(a:Good none k):False:=by obtain⟨l,h,_⟩:=a;cases h
def B6T(es:List (List V))(sz:Nat):Bool:=es.all fun r=>Nat.beq r.length sz
theorem A8u{es:List (List V)}{sz:Nat}(h:B6T es sz=true):C4 es sz:=fun r a=>Nat.eq_of_beq_eq_true (List.all_eq_true.1 h r a)
def zle(a b:Int):Bool:=match b-a with
 | .ofNat _=>true
 | .negSucc _=>false
theorem q9{a b:Int}:zle a b=true↔a≤b:=by
 unfold zle
 split
 ·rename_i m h
  have h:b-a=(m:Int):=h
  simp only [true_iff];omega
 ·rename_i m h
  simp only [Bool.false_eq_true,false_iff];omega
def zlt(a b:Int):Bool:=zle (a+1) b
theorem B0T{a b:Int}:zlt a b=true↔a<b:=by unfold zlt;rw [q9];omega
def zeq(a b:Int):Bool:=match a,b with
 | .ofNat a,.ofNat b=>Nat.beq a b
 | .negSucc a,.negSucc b=>Nat.beq a b
 |_,_=>false
theorem B5D{a b:Int}:zeq a b=true↔a=b:=by
 unfold zeq
 cases a<;>cases b<;>simp<;>omega
theorem C5F(a b:Int):decide (a≤b)=zle a b:=by rw [Bool.eq_iff_iff,decide_eq_true_eq,q9]
theorem C5G(a b:Int):decide (a<b)=zlt a b:=by rw [Bool.eq_iff_iff,decide_eq_true_eq,B0T]
theorem C5E(a b:Int):decide (a=b)=zeq a b:=by rw [Bool.eq_iff_iff,decide_eq_true_eq,B5D]
def kEq:IntKind→IntKind→Bool
 | .i8,.i8| .i16,.i16| .i32,.i32| .i64,.i64| .u8,.u8| .u16,.u16| .u32,.u32| .u64,.u64=>true
 |_,_=>false
theorem B9L{a b:IntKind}:kEq a b=true↔a=b:=by cases a<;>cases b<;>simp [kEq]
def D3w(k:IntKind)(z:Int):Bool:=
 match k with
 | .i64=>zle (-9223372036854775808) z&&zle z 9223372036854775807
 |_=>true
theorem C8K{k:IntKind}{z:Int}(h:D3w k z=true):inR k z:=by
 cases k<;>simp only [D3w,inR,Bool.and_eq_true,q9]at h⊢
 exact h
def B3s(k:IntKind)(z:Int)(h:A2)(n:Nat):t8:=gE (D3w k z) (K2 (B9e k z) h n)
theorem Good.arith{j:IntKind}{z:Int}{h:A2}{n:Nat}{k:Res}(a:Good (B3s j z h n) k):u2 j z k h n:=⟨C8K a.g.1,a.g.2.one⟩
theorem B3O{a b:Nat}:Nat.beq a b=true↔a=b:=⟨Nat.eq_of_beq_eq_true,fun h=>h ▸ Nat.beq_refl a⟩
def n6:List UInt8→List UInt8→Bool
 | [],[]=>true
 |a::r,b::s=>Nat.beq a.toNat b.toNat&&n6 r s
 |_,_=>false
theorem A5S: ∀{a b:List UInt8},n6 a b=true↔a=b
 | [],[]=>by simp [n6]
 | [],_::_=>by simp [n6]
 |_::_,[]=>by simp [n6]
 |a::r,b::s=>by
  simp only [n6,Bool.and_eq_true,A5S,List.cons.injEq,B3O]
  rw [←UInt8.toNat_inj]
theorem B0D(a b:List UInt8):decide (a=b)=n6 a b:=by rw [Bool.eq_iff_iff,decide_eq_true_eq,A5S]
def D2O(op:BinOp)(x y:V)(h:A2)(n:Nat):t8:=
 match x,y with
 | .int j a,.int j' b=>gE (kEq j j') (match op with
  | .add=>B3s j (a+b) h n
  | .sub=>B3s j (a-b) h n
  | .mul=>B3s j (a*b) h n
  | .quo=>gE (!zeq b 0) (B3s j (a.tdiv b) h n)
  | .rem=>gE (!zeq b 0) (K2 (.int j (a.tmod b)) h n)
  | .eql=>K2 (.bool (zeq a b)) h n
  | .neq=>K2 (.bool (!zeq a b)) h n
  | .lss=>K2 (.bool (zlt a b)) h n
  | .leq=>K2 (.bool (zle a b)) h n
  | .gtr=>K2 (.bool (zlt b a)) h n
  | .geq=>K2 (.bool (zle b a)) h n
  | .and=>K2 (.int j (A4f .and j a b)) h n
  | .or=>K2 (.int j (A4f .or j a b)) h n
  | .xor=>K2 (.int j (A4f .xor j a b)) h n
  | .andNot=>K2 (.int j (A4f .andNot j a b)) h n
  |_=>none)
 | .str a,.str b=>match op with
  | .add=>gE (Nat.ble (a.length+b.length) 1099511627776) (K2 (.str (a++b)) h n)
  | .eql=>K2 (.bool (n6 a b)) h n
  | .neq=>K2 (.bool (!n6 a b)) h n
  | .lss=>K2 (.bool (W6 a b)) h n
  | .geq=>K2 (.bool (!W6 a b)) h n
  | .leq=>K2 (.bool (W6 a b||n6 a b)) h n
  | .gtr=>K2 (.bool !(W6 a b||n6 a b)) h n
  |_=>none
 |_,_=>none
theorem C5r{a b:Int}(h:(!zeq a b)=true):a≠b:=fun e=>by
 rw [B5D.2 e]at h;cases h
theorem Good.bin{o:BinOp}{x y:V}{h:A2}{n:Nat}{k:Res}(c:Good (D2O o x y h n) k):u3 o x y k h n:=by
 unfold D2O at c
 split at c
 ·rename_i j a e b
  obtain⟨d,c⟩:=c.g
  have d:=B9L.1 d
  unfold u3
  refine⟨d,?_⟩
  cases o<;>simp only at c⊢
  case add=>exact c.arith
  case sub=>exact c.arith
  case mul=>exact c.arith
  case quo=>exact⟨C5r c.g.1,c.g.2.arith⟩
  case rem=>exact⟨C5r c.g.1,c.g.2.one⟩
  case eql=>rw [C5E];exact c.one
  case neq=>rw [decide_not,C5E];exact c.one
  case lss=>rw [C5G];exact c.one
  case leq=>rw [C5F];exact c.one
  case gtr=>rw [C5G];exact c.one
  case geq=>rw [C5F];exact c.one
  case and=>exact c.one
  case or=>exact c.one
  case xor=>exact c.one
  case andNot=>exact c.one
  all_goals exact c.no
 ·rename_i a b
  unfold u3
  cases o<;>simp only at c⊢
  case add=>exact⟨Nat.le_of_ble_eq_true c.g.1,c.g.2.one⟩
  case eql=>rw [B0D];exact c.one
  case neq=>rw [decide_not,B0D];exact c.one
  case lss=>exact c.one
  case geq=>exact c.one
  case leq=>rw [B0D];exact c.one
  case gtr=>rw [B0D];exact c.one
  all_goals exact c.no
 ·exact c.no.elim
def unE(op:UnOp)(x:V)(h:A2)(n:Nat):t8:=
 match op,x with
 | .neg,.int j a=>B3s j (0-a) h n
 | .not,.bool b=>K2 (.bool !b) h n
 | .xor,.int j a=>K2 (.int j (A4f .xor j (bif j.signed then -1 else j.max) a)) h n
 |_,_=>none
theorem Good.un{o:UnOp}{x:V}{h:A2}{n:Nat}{k:Res}(a:Good (unE o x h n) k):unK o x k h n:=by
 unfold unE at a
 split at a
 ·exact a.arith
 ·exact a.one
 ·exact a.one
 ·exact Xv
def C3w(sz:Nat)(x i:V)(h:A2)(n:Nat):t8:=
 match i with
 | .int _ z=>match x with
  | .sl b st i0 m=>gE (zle 0 z&&zlt z m&&(match B2i (A2.get h b st)with|some s=>Nat.beq s sz|none=>false)) (K2 (.ptr b st (i0+z.toNat) 0) h n)
  | .isl es=>gE (zle 0 z&&zlt z es.length&&B6T es sz) (K2 (.iptr es z.toNat 0) h n)
  |_=>none
 |_=>none
theorem Good.iaddr{sz:Nat}{x i:V}{h:A2}{n:Nat}{k:Res}(d:Good (C3w sz x i h n) k):A3C sz x i k h n:=by
 unfold C3w at d
 split at d
 ·split at d
  ·obtain⟨e,d⟩:=d.g
   simp only [Bool.and_eq_true,q9,B0T]at e
   obtain⟨⟨a,b⟩,c⟩:=e
   refine⟨a,b,?_,d.one⟩
   split at c
   ·rename_i s f;rw [f,Nat.eq_of_beq_eq_true c]
   ·cases c
  ·obtain⟨e,d⟩:=d.g
   simp only [Bool.and_eq_true,q9,B0T]at e
   exact⟨e.1.1,e.1.2,A8u e.2,d.one⟩
  ·exact d.no.elim
 ·exact d.no.elim
def B9J(len sz:Nat)(x i:V)(h:A2)(n:Nat):t8:=
 match i with
 | .int _ z=>match x with
  | .ptr b st i0 j=>gE (zle 0 z&&zlt z len) (K2 (.ptr b st i0 (j+z.toNat*sz)) h n)
  | .iptr es i0 j=>gE (zle 0 z&&zlt z len) (K2 (.iptr es i0 (j+z.toNat*sz)) h n)
  |_=>none
 |_=>none
theorem Good.iaddrA{len sz:Nat}{x i:V}{h:A2}{n:Nat}{k:Res}(a:Good (B9J len sz x i h n) k):A3M len sz x i k h n:=by
 unfold B9J at a
 split at a
 ·split at a
  ·exact YJ
  ·exact YJ
  ·exact Xv
 ·exact Xv
def D3u(x i:V)(h:A2)(n:Nat):t8:=
 match x,i with
 | .str s,.int _ z=>gE (zle 0 z) (B1H ((s[z.toNat]?).map fun b=> .int .u8 b.toNat) h n)
 |_,_=>none
theorem Good.idx{x i:V}{h:A2}{n:Nat}{k:Res}(a:Good (D3u x i h n) k):B9K x i k h n:=by
 unfold D3u at a
 split at a
 ·exact⟨q9.1 a.g.1,a.g.2.opt⟩
 ·exact Xv
def shE(left:Bool)(x y:V)(h:A2)(n:Nat):t8:=
 match x,y with
 | .int j a,.int _ b=>gE (zle 0 b) (K2 (.int j (shZ left j a b)) h n)
 |_,_=>none
theorem Good.sh{l:Bool}{x y:V}{h:A2}{n:Nat}{k:Res}(a:Good (shE l x y h n) k):shK l x y k h n:=by
 unfold shE at a
 split at a
 ·exact⟨q9.1 a.g.1,a.g.2.one⟩
 ·exact Xv
def C8J(len sz m:Nat)(agg:Bool)(x i:V)(h:A2)(n:Nat):t8:=
 match x,i with
 | .agg cs,.int _ z=>gE (zle 0 z&&zlt z len) (B1H (S5 cs (z.toNat*sz) m agg) h n)
 |_,_=>none
theorem Good.idxA{len sz m:Nat}{b:Bool}{x i:V}{h:A2}{n:Nat}{k:Res}(a:Good (C8J len sz m b x i h n) k):B0a len sz m b x i k h n:=by
 unfold C8J at a
 split at a
 ·obtain⟨c,a⟩:=a.g
  simp only [Bool.and_eq_true,q9,B0T]at c
  exact⟨c.1,c.2,a.opt⟩
 ·exact Xv
def D3a(z:List V)(x:V)(h:A2)(n:Nat):t8:=
 match x with
 | .nils=>K2 (.tup []) h n
 | .sl b st i m=>match A2.get h b st with
  |some (.rows sz rs)=>gE (Nat.beq sz z.length&&Nat.ble (i+m) rs.length) (K2 (.tup []) (A2.put h b st (.rows sz (rs.take i++List.replicate m z++rs.drop (i+m)))) n)
  |_=>none
 |_=>none
theorem Good.clr{z:List V}{x:V}{h:A2}{n:Nat}{k:Res}(a:Good (D3a z x h n) k):B4U z x k h n:=by
 unfold D3a at a
 unfold B4U
 split at a
 ·exact a.one
 ·simp only
  split at a
  ·rename_i c
   obtain⟨b,a⟩:=a.g
   simp only [Bool.and_eq_true,B3O,Nat.ble_eq]at b
   rw [c]
   exact⟨b.1,b.2,a.one⟩
  ·exact Xv
 ·exact Xv
def D6W(nm:Nat)(rs:Option (List (List V)))(h:A2)(n:Nat):t8:=
 match rs with
 |some rs=>gE (Nat.ble 1 rs.length) (K2 (.sl nm n 0 rs.length) (A2.put h nm n (.raw rs)) (n+1))
 |none=>none
theorem Good.raw{nm:Nat}{rs:Option (List (List V))}{h:A2}{n:Nat}{k:Res}(a:Good (D6W nm rs h n) k):D7X nm rs k h n:=by
 unfold D6W at a
 split at a
 ·obtain⟨b,a⟩:=a.g
  exact⟨Nat.le_of_ble_eq_true b,a.one⟩
 ·exact Xv
def D2S(nm sz:Nat)(cs:Option (List V))(h:A2)(n:Nat):t8:=
 match cs with
 |some cs=>gE (Nat.beq cs.length sz) (K2 (.ptr nm n 0 0) (A2.put h nm n (.rows sz [cs])) (n+1))
 |none=>none
theorem Good.box{nm sz:Nat}{cs:Option (List V)}{h:A2}{n:Nat}{k:Res}(a:Good (D2S nm sz cs h n) k):B7x nm sz cs k h n:=by
 unfold D2S at a
 split at a
 ·exact⟨Nat.eq_of_beq_eq_true a.g.1,a.g.2.one⟩
 ·exact Xv
def D3Y(nm sz:Nat)(rs:Option (List (List V)))(h:A2)(n:Nat):t8:=
 match rs with
 |some rs=>K2 (.sl nm n 0 rs.length) (A2.put h nm n (.rows sz rs)) (n+1)
 |none=>none
theorem Good.row{nm sz:Nat}{rs:Option (List (List V))}{h:A2}{n:Nat}{k:Res}(a:Good (D3Y nm sz rs h n) k):C2l nm sz rs k h n:=by
 unfold D3Y at a
 split at a
 ·exact a.one
 ·exact Xv
def D3y(rs:Option (List (List V)))(h:A2)(n:Nat):t8:=
 match rs with
 |some rs=>K2 (.isl rs) h n
 |none=>none
theorem Good.isl{rs:Option (List (List V))}{h:A2}{n:Nat}{k:Res}(a:Good (D3y rs h n) k):C1m rs k h n:=by
 unfold D3y at a
 split at a
 ·exact a.one
 ·exact Xv
def C8H(h:Option A2)(n:Nat):t8:=
 match h with
 |some h=>K2 .undef h n
 |none=>none
theorem Good.heap{h:Option A2}{n:Nat}{k:Res}(a:Good (C8H h n) k):B0Z h k n:=by
 unfold C8H at a
 split at a
 ·exact a.one
 ·exact Xv
def D0r(L nm sz:Nat)(s:V)(xs:Option (List (List V)))(h:A2)(n:Nat):t8:=
 match xs with
 |none=>none
 | some xs=>gE (B6T xs sz) (match s with
  | .nils=>gE (Nat.ble xs.length L) (K2 (.sl nm n 0 xs.length) (A2.put h nm n (.rows sz xs)) (n+1))
  | .sl b st i m=>match A2.get h b st with
   | some (.rows sz' rs)=>gE (Nat.beq sz' sz&&Nat.ble (i+m) rs.length&&Nat.ble (m+xs.length) L)
     (K2 (.sl b n 0 (m+xs.length)) (A2.put h b n (.rows sz ((rs.drop i).take m++xs))) (n+1))
   |_=>none
  |_=>none)
theorem Good.app{L nm sz:Nat}{s:V}{x:Option (List (List V))}{h:A2}{n:Nat}{k:Res}(a:Good (D0r L nm sz s x h n) k):A9P L nm sz s x k h n:=by
 unfold D0r at a
 split at a
 ·exact Xv
 ·obtain⟨c,a⟩:=a.g
  unfold A9P
  refine⟨A8u c,?_⟩
  split at a
  ·exact⟨Nat.le_of_ble_eq_true a.g.1,a.g.2.one⟩
  ·simp only
   split at a
   ·rename_i d
    obtain⟨b,a⟩:=a.g
    simp only [Bool.and_eq_true,B3O,Nat.ble_eq]at b
    rw [d]
    exact⟨b.1.1,b.1.2,b.2,a.one⟩
   ·exact Xv
  ·exact Xv
def C8h(sz:Nat)(d:V)(xs:Option (List (List V)))(h:A2)(n:Nat):t8:=
 match xs with
 |none=>none
 | some xs=>gE (B6T xs sz) (match d with
  | .nils=>K2 (.int .i64 0) h n
  | .sl b st i m=>match A2.get h b st with
   | some (.rows sz' rs)=>gE (Nat.beq sz' sz&&Nat.ble (i+m) rs.length)
     (K2 (.int .i64 (min xs.length m:Nat)) (A2.put h b st (.rows sz (rs.take i++xs.take (min xs.length m)++rs.drop (i+min xs.length m)))) n)
   |_=>none
  |_=>none)
theorem Good.copy{sz:Nat}{d:V}{x:Option (List (List V))}{h:A2}{n:Nat}{k:Res}(a:Good (C8h sz d x h n) k):A9g sz d x k h n:=by
 unfold C8h at a
 split at a
 ·exact Xv
 ·obtain⟨c,a⟩:=a.g
  unfold A9g
  refine⟨A8u c,?_⟩
  split at a
  ·exact a.one
  ·simp only
   split at a
   ·rename_i e
    obtain⟨b,a⟩:=a.g
    simp only [Bool.and_eq_true,B3O,Nat.ble_eq]at b
    rw [e]
    exact⟨b.1,b.2,a.one⟩
   ·exact Xv
  ·exact Xv
def C8Y(nm:Nat)(z:List V)(x:V)(h:A2)(n:Nat):t8:=
 match x with
 | .int .i64 m=>gE (zle 0 m&&zle m 137438953472) (K2 (.sl nm n 0 m.toNat) (A2.put h nm n (.rows z.length (List.replicate m.toNat z))) (n+1))
 |_=>none
theorem Good.mksl{nm:Nat}{z:List V}{x:V}{h:A2}{n:Nat}{k:Res}(a:Good (C8Y nm z x h n) k):B4B nm z x k h n:=by
 unfold C8Y at a
 split at a
 ·obtain⟨b,a⟩:=a.g
  simp only [Bool.and_eq_true,q9]at b
  exact⟨b.1,b.2,a.one⟩
 ·exact Xv
def D4f(sz:Nat)(x:V)(lo hi:Option V)(h:A2)(n:Nat):t8:=
 match x with
 | .sl b st i m=>match K5 0 lo,K5 m hi with
  |some l,some u=>gE ((match B2i (A2.get h b st)with|some s=>Nat.beq s sz|none=>false)&&zle 0 l&&zle l u&&zle u m) (K2 (.sl b st (i+l.toNat) (u-l).toNat) h n)
  |_,_=>none
 | .isl es=>match K5 0 lo,K5 es.length hi with
  |some l,some u=>gE (B6T es sz&&zle 0 l&&zle l u&&zle u es.length) (K2 (.isl ((es.drop l.toNat).take (u-l).toNat)) h n)
  |_,_=>none
 | .nils=>match K5 0 lo,K5 0 hi with
  |some l,some u=>gE (zeq l 0&&zeq u 0) (K2 .nils h n)
  |_,_=>none
 |_=>none
theorem Good.slc{sz:Nat}{x:V}{l f:Option V}{h:A2}{n:Nat}{k:Res}(a:Good (D4f sz x l f h n) k):B3i sz x l f k h n:=by
 unfold D4f at a
 unfold B3i
 split at a
 ·simp only
  split at a
  ·rename_i e d
   obtain⟨b,a⟩:=a.g
   simp only [Bool.and_eq_true,q9]at b
   rw [e,d]
   refine⟨?_,b.1.1.2,b.1.2,b.2,a.one⟩
   have c:=b.1.1.1
   split at c
   ·rename_i s g;rw [g,Nat.eq_of_beq_eq_true c]
   ·cases c
  ·exact Xv
 ·simp only
  split at a
  ·rename_i e d
   obtain⟨b,a⟩:=a.g
   simp only [Bool.and_eq_true,q9]at b
   rw [e,d]
   exact⟨A8u b.1.1.1,b.1.1.2,b.1.2,b.2,a.one⟩
  ·exact Xv
 ·simp only
  split at a
  ·rename_i e d
   obtain⟨b,a⟩:=a.g
   simp only [Bool.and_eq_true,B5D]at b
   rw [e,d]
   exact⟨b.1,b.2,a.one⟩
  ·exact Xv
 ·exact Xv
def D4i(x:V)(lo hi:Option V)(h:A2)(n:Nat):t8:=
 match x with
 | .str s=>match K5 0 lo,K5 s.length hi with
  |some l,some u=>gE (zle 0 l&&zle l u&&zle u s.length) (K2 (.str ((s.drop l.toNat).take (u-l).toNat)) h n)
  |_,_=>none
 |_=>none
theorem Good.sls{x:V}{l c:Option V}{h:A2}{n:Nat}{k:Res}(a:Good (D4i x l c h n) k):B5i x l c k h n:=by
 unfold D4i at a
 unfold B5i
 split at a
 ·simp only
  split at a
  ·rename_i e d
   obtain⟨b,a⟩:=a.g
   simp only [Bool.and_eq_true,q9]at b
   rw [e,d]
   exact⟨b.1.1,b.1.2,b.2,a.one⟩
  ·exact Xv
 ·exact Xv
def B6o(k:V):List (V×V)→Bool
 | []=>true
 |e::r=>(A5W k e.1).isSome&&B6o k r
theorem B1B{k:V}: ∀{l:List (V×V)},B6o k l=true→A5X k l
 | [],_=>trivial
 |_::_,h=>by
  simp only [B6o,Bool.and_eq_true]at h
  exact⟨h.1,B1B h.2⟩
def C8U(kd:Nat)(z:V)(ok:Bool)(m key:V)(h:A2)(n:Nat):t8:=
 match m with
 | .nilm=>gE (A8k kd key) (K2 (B2B z ok none) h n)
 | .mp b st=>match A2.get h b st with
  |some (.map es)=>gE (A8k kd key&&B6o key es) (K2 (B2B z ok (u7 key es)) h n)
  |_=>none
 |_=>none
theorem Good.look{d:Nat}{z:V}{o:Bool}{m b:V}{h:A2}{n:Nat}{k:Res}(a:Good (C8U d z o m b h n) k):A9l d z o m b k h n:=by
 unfold C8U at a
 unfold A9l
 split at a
 ·exact⟨a.g.1,a.g.2.one⟩
 ·exact XQ
 ·exact Xv
def C9a(kd:Nat)(m key v:V)(h:A2)(n:Nat):t8:=
 match m with
 | .mp b st=>match A2.get h b st with
  |some (.map es)=>gE (A8k kd key&&B6o key es) (K2 .undef (A2.put h b st (.map (A7b key v es))) n)
  |_=>none
 |_=>none
theorem Good.mput{d:Nat}{m b v:V}{h:A2}{n:Nat}{k:Res}(a:Good (C9a d m b v h n) k):B2E d m b v k h n:=by
 unfold C9a at a
 unfold B2E
 split at a
 ·exact XQ
 ·exact Xv
abbrev Q9:=FuncId→List V→A2→Nat→t8
def C7W(P:Program)(C:Q9)(f:V)(xs:List V)(h:A2)(n:Nat):t8:=
 match f with
 | .fn g cs=>gE (K8 P g) (C g (xs++cs) h n)
 |_=>none
def D3i(fn neg:Bool)(x:V)(h:A2)(n:Nat):t8:=
 match fn,x with
 |false,.nils=>K2 (.bool !neg) h n
 |false,.isl (_::_)=>K2 (.bool neg) h n
 |false,.sl _ _ _ (_+1)=>K2 (.bool neg) h n
 |true,.fn _ _=>K2 (.bool neg) h n
 |true,.cst .nilFunc=>K2 (.bool !neg) h n
 |_,_=>none
theorem Good.eqn{f neg:Bool}{x:V}{h:A2}{n:Nat}{k:Res}(a:Good (D3i f neg x h n) k):A8h f neg x k h n:=by
 unfold D3i at a
 split at a
 ·exact a.one
 ·exact⟨a.one,fun e=>by cases e⟩
 ·exact⟨a.one,fun e=>by cases e⟩
 ·exact a.one
 ·exact a.one
 ·exact Xv
def exO(P:Program)(C:Q9)(s:St):AO→t8
 | .mov x=>K2 (s.ev x) s.h s.n
 | .pick c a b=>B1H (C1Q (s.ev c) (s.ev a) (s.ev b)) s.h s.n
 | .nilck x=>B1H (B6A (s.ev x)) s.h s.n
 | .box nm sz x=>D2S nm sz (A3y (s.ev x)) s.h s.n
 | .build z ps=>B1H ((A4u s z ps).map .agg) s.h s.n
 | .mkrow nm sz xs=>D3Y nm sz (O8 sz s xs) s.h s.n
 | .mkisl sz xs=>D3y (O8 sz s xs) s.h s.n
 | .load m agg x=>B1H (A4w s.h (s.ev x) m agg) s.h s.n
 | .store m x v=>C8H (B7j s.h (s.ev x) (s.ev v) m) s.n
 | .faddr off x=>B1H (B5X off (s.ev x)) s.h s.n
 | .iaddr sz x i=>C3w sz (s.ev x) (s.ev i) s.h s.n
 | .iaddrA len sz x i=>B9J len sz (s.ev x) (s.ev i) s.h s.n
 | .fld off m agg x=>B1H (C8x off m agg (s.ev x)) s.h s.n
 | .idx x i=>D3u (s.ev x) (s.ev i) s.h s.n
 | .ext i x=>B1H (C8w i (s.ev x)) s.h s.n
 | .bin op x y=>D2O op (s.ev x) (s.ev y) s.h s.n
 | .eqp kind neg x y=>B1H (bif B4w kind (s.ev x)then C3r neg (s.ev x) (s.ev y)else none) s.h s.n
 | .eqa neg t x y=>B1H (C8u neg t (s.ev x) (s.ev y)) s.h s.n
 | .un op x=>unE op (s.ev x) s.h s.n
 | .conv j x=>B1H (C0R j (s.ev x)) s.h s.n
 | .len kind x=>B1H (B6p s.h kind (s.ev x)) s.h s.n
 | .mm mx xs=>B1H (mmV mx (xs.map s.ev)) s.h s.n
 | .app nm sz b x=>D0r 137438953472 nm sz (s.ev b) (A5P s.h (s.ev x)) s.h s.n
 | .apb L nm sz b x=>D0r L nm sz (s.ev b) (A5P s.h (s.ev x)) s.h s.n
 | .copy sz d x=>C8h sz (s.ev d) (A5P s.h (s.ev x)) s.h s.n
 | .mksl nm z x=>C8Y nm z (s.ev x) s.h s.n
 | .slc sz x lo hi=>D4f sz (s.ev x) (lo.map s.ev) (hi.map s.ev) s.h s.n
 | .sls x lo hi=>D4i (s.ev x) (lo.map s.ev) (hi.map s.ev) s.h s.n
 | .mkfn f xs=>K2 (.fn f (xs.map s.ev)) s.h s.n
 | .mkmap nm=>K2 (.mp nm s.n) (A2.put s.h nm s.n (.map [])) (s.n+1)
 | .look kd z ok m x=>C8U kd z ok (s.ev m) (s.ev x) s.h s.n
 | .mput kd m x v=>C9a kd (s.ev m) (s.ev x) (s.ev v) s.h s.n
 | .idxA len sz m agg x i=>C8J len sz m agg (s.ev x) (s.ev i) s.h s.n
 | .clr z x=>D3a z (s.ev x) s.h s.n
 | .call f xs=>C f (xs.map s.ev) s.h s.n
 | .callv f xs=>C7W P C (s.ev f) (xs.map s.ev) s.h s.n
 | .pcall .. =>none
 | .eqn fn neg x=>D3i fn neg (s.ev x) s.h s.n
 | .bad=>none
def N9(P:Program)(C:Q9):Prop:= ∀f xs h n k,Good (C f xs h n) k→A0 P f xs h n k
theorem C6p{P:Program}{C:Q9}(a:N9 P C){s:St}{o:AO}{k:Res}(h:Good (exO P C s o) k):C3 P o s k:=by
 cases o<;>simp only [exO]at h<;>simp only [C3]
 case mov=>exact h.one
 case pick=>exact h.opt
 case nilck=>exact h.opt
 case box=>exact h.box
 case build=>exact h.opt
 case mkrow=>exact h.row
 case mkisl=>exact h.isl
 case load=>exact h.opt
 case store=>exact h.heap
 case faddr=>exact h.opt
 case iaddr=>exact h.iaddr
 case iaddrA=>exact h.iaddrA
 case fld=>exact h.opt
 case idx=>exact h.idx
 case ext=>exact h.opt
 case bin=>exact h.bin
 case eqp=>exact h.opt
 case eqa=>exact h.opt
 case un=>exact h.un
 case conv=>exact h.opt
 case len=>exact h.opt
 case mm=>exact h.opt
 case app=>exact h.app
 case apb=>exact h.app
 case copy=>exact h.copy
 case mksl=>exact h.mksl
 case slc=>exact h.slc
 case sls=>exact h.sls
 case mkfn=>exact h.one
 case mkmap=>exact h.one
 case look=>exact h.look
 case mput=>exact h.mput
 case idxA=>exact h.idxA
 case clr=>exact h.clr
 case call=>exact a _ _ _ _ _ h
 case callv=>
  unfold C7W at h
  split at h
  ·rename_i g c b
   rw [b]
   exact⟨h.g.1,a _ _ _ _ _ h.g.2⟩
  ·exact h.no.elim
 case pcall=>exact h.no.elim
 case eqn=>exact h.eqn
 case bad=>exact h.no
def bEq:Bool→Bool→Bool
 |true,true|false,false=>true
 |_,_=>false
theorem D0v{a b:Bool}(h:bEq a b=true):a=b:=by cases a<;>cases b<;>first|rfl|cases h
def C8i:Value→Value→Bool
 | .nilIface,.nilIface=>true
 | .nilFunc,.nilFunc=>true
 |_,_=>false
theorem C8j{a b:Value}(h:C8i a b=true):a=b:=by
 unfold C8i at h
 split at h
 ·rfl
 ·rfl
 ·cases h
mutual
def V.beq:V→V→Bool
 | .undef,.undef=>true
 | .bool a,.bool b=>bEq a b
 | .int k n,.int k' n'=>kEq k k'&&zeq n n'
 | .str a,.str b=>n6 a b
 | .agg a,.agg b=>V.beqL a b
 | .tup a,.tup b=>V.beqL a b
 | .nilp,.nilp=>true
 | .ptr b st i j,.ptr b' st' i' j'=>Nat.beq b b'&&(Nat.beq st st'&&(Nat.beq i i'&&Nat.beq j j'))
 | .nils,.nils=>true
 | .sl b st i j,.sl b' st' i' j'=>Nat.beq b b'&&(Nat.beq st st'&&(Nat.beq i i'&&Nat.beq j j'))
 | .isl a,.isl b=>V.beqLL a b
 | .iptr a i j,.iptr b i' j'=>V.beqLL a b&&(Nat.beq i i'&&Nat.beq j j')
 | .nilm,.nilm=>true
 | .mp b st,.mp b' st'=>Nat.beq b b'&&Nat.beq st st'
 | .fn f cs,.fn g ds=>Nat.beq f g&&V.beqL cs ds
 | .err,.err=>true
 | .cst v,.cst w=>C8i v w
 | .anyi k,.anyi k'=>kEq k k'
 |_,_=>false
def V.beqL:List V→List V→Bool
 | [],[]=>true
 |a::r,b::s=>V.beq a b&&V.beqL r s
 |_,_=>false
def V.beqLL:List (List V)→List (List V)→Bool
 | [],[]=>true
 |a::r,b::s=>V.beqL a b&&V.beqLL r s
 |_,_=>false
end
mutual
theorem V.beq_eq: ∀{a b:V},V.beq a b=true→a=b
 | .undef,b,h=>by cases b<;>first|rfl|simp [V.beq]at h
 | .bool a,b,h=>by
  cases b<;>simp only [V.beq,Bool.false_eq_true]at h
  rw [D0v h]
 | .int k n,b,h=>by
  cases b<;>simp only [V.beq,Bool.false_eq_true,Bool.and_eq_true]at h
  rw [B9L.1 h.1,B5D.1 h.2]
 | .str a,b,h=>by
  cases b<;>simp only [V.beq,Bool.false_eq_true]at h
  rw [A5S.1 h]
 | .agg a,b,h=>by
  cases b<;>simp only [V.beq,Bool.false_eq_true]at h
  rw [V.beqL_eq h]
 | .tup a,b,h=>by
  cases b<;>simp only [V.beq,Bool.false_eq_true]at h
  rw [V.beqL_eq h]
 | .nilp,b,h=>by cases b<;>first|rfl|simp [V.beq]at h
 | .ptr b st i j,x,h=>by
  exact Yy
 | .nils,b,h=>by cases b<;>first|rfl|simp [V.beq]at h
 | .sl b st i j,x,h=>by
  exact Yy
 | .isl a,b,h=>by
  cases b<;>simp only [V.beq,Bool.false_eq_true]at h
  rw [V.beqLL_eq h]
 | .iptr a i j,b,h=>by
  cases b<;>simp only [V.beq,Bool.false_eq_true,Bool.and_eq_true,B3O]at h
  obtain⟨c,rfl,rfl⟩:=h;rw [V.beqLL_eq c]
 | .nilm,b,h=>by cases b<;>first|rfl|simp [V.beq]at h
 | .mp b st,x,h=>by
  cases x<;>simp only [V.beq,Bool.false_eq_true,Bool.and_eq_true,B3O]at h
  obtain⟨rfl,rfl⟩:=h;rfl
 | .fn f cs,x,h=>by
  cases x<;>simp only [V.beq,Bool.false_eq_true,Bool.and_eq_true,B3O]at h
  obtain⟨rfl,c⟩:=h;rw [V.beqL_eq c]
 | .cst v,b,h=>by
  cases b<;>simp only [V.beq,Bool.false_eq_true]at h
  rw [C8j h]
 | .err,b,h=>by cases b<;>first|rfl|simp [V.beq]at h
 | .anyi k,b,h=>by
  cases b<;>simp only [V.beq,Bool.false_eq_true]at h
  rw [B9L.1 h]
theorem V.beqL_eq: ∀{a b:List V},V.beqL a b=true→a=b
 | [],b,h=>by cases b<;>first|rfl|simp [V.beqL]at h
 |x::r,b,h=>by
  cases b<;>simp only [V.beqL,Bool.false_eq_true,Bool.and_eq_true]at h
  rw [V.beq_eq h.1,V.beqL_eq h.2]
theorem V.beqLL_eq: ∀{a b:List (List V)},V.beqLL a b=true→a=b
 | [],b,h=>by cases b<;>first|rfl|simp [V.beqLL]at h
 |x::r,b,h=>by
  cases b<;>simp only [V.beqLL,Bool.false_eq_true,Bool.and_eq_true]at h
  rw [V.beqL_eq h.1,V.beqLL_eq h.2]
end
def C4I:List (V×V)→List (V×V)→Bool
 | [],[]=>true
 |a::r,b::s=>V.beq a.1 b.1&&(V.beq a.2 b.2&&C4I r s)
 |_,_=>false
theorem C0E: ∀{a b:List (V×V)},C4I a b=true→a=b
 | [],[],_=>rfl
 | [],_::_,h=>by cases h
 |_::_,[],h=>by cases h
 |x::r,y::s,h=>by
  simp only [C4I,Bool.and_eq_true]at h
  rw [show x=y from Prod.ext (V.beq_eq h.1) (V.beq_eq h.2.1),C0E h.2.2]
def C3a:Blk→Blk→Bool
 | .rows sz rs,.rows sz' rs'=>Nat.beq sz sz'&&V.beqLL rs rs'
 | .map es,.map es'=>C4I es es'
 |_,_=>false
theorem C5P{a b:Blk}(h:C3a a b=true):a=b:=by
 cases a<;>cases b<;>simp only [C3a,Bool.false_eq_true,Bool.and_eq_true,B3O]at h
 ·rw [h.1,V.beqLL_eq h.2]
 ·rw [C0E h]
def D0x:A2→A2→Bool
 | [],[]=>true
 |a::r,b::s=>Nat.beq a.1 b.1&&(Nat.beq a.2.1 b.2.1&&(C3a a.2.2 b.2.2&&D0x r s))
 |_,_=>false
theorem C4H: ∀{a b:A2},D0x a b=true→a=b
 | [],[],_=>rfl
 | [],_::_,h=>by cases h
 |_::_,[],h=>by cases h
 |(x1,x2,x3)::r,(y1,y2,y3)::s,h=>by
  simp only [D0x,Bool.and_eq_true,B3O]at h
  obtain⟨rfl,rfl,d,c⟩:=h
  rw [C5P d,C4H c]
def C4J:List (Nat×V)→List (Nat×V)→Bool
 | [],[]=>true
 |a::r,b::s=>Nat.beq a.1 b.1&&(V.beq a.2 b.2&&C4J r s)
 |_,_=>false
theorem C0F: ∀{a b:List (Nat×V)},C4J a b=true→a=b
 | [],[],_=>rfl
 | [],_::_,h=>by cases h
 |_::_,[],h=>by cases h
 |(x1,x2)::r,(y1,y2)::s,h=>by
  simp only [C4J,Bool.and_eq_true,B3O]at h
  obtain⟨rfl,d,c⟩:=h
  rw [V.beq_eq d,C0F c]
def C7S(a b:St):Bool:=C4J a.sl b.sl&&(D0x a.h b.h&&Nat.beq a.n b.n)
theorem C7T{a b:St}(h:C7S a b=true):a=b:=by
 obtain⟨c,f,i⟩:=a
 obtain⟨e,d,g⟩:=b
 simp only [C7S,Bool.and_eq_true,B3O]at h
 rw [C0F h.1,C4H h.2.1,h.2.2]
def C6t(d:Option Nat)(sl:List (Nat×V))(r:V×A2×Nat):St:=
 match d with
 |some i=>⟨I2 sl i r.1,r.2.1,r.2.2⟩
 |none=>⟨sl,r.2.1,r.2.2⟩
def exA(P:Program)(C:Q9)(i:AI)(s:St):Option St:=
 match i.g with
 |none=>(exO P C s i.o).map (C6t i.d s.sl)
 |some (j,want)=>match D9 s.sl j with
  | .bool b=>bif bEq b want then(exO P C ⟨I2 s.sl j (.bool want),s.h,s.n⟩ i.o).map (C6t i.d (I2 s.sl j (.bool want)))else some (C6t i.d (I2 s.sl j (.bool !want)) (.cst Go.undef,s.h,s.n))
  | .cst u=>bif B2H u then some (C6t i.d s.sl (.cst Go.undef,s.h,s.n))else none
  |_=>none
def exV(P:Program)(C:Q9):List AI→St→Option St
 | [],s=>some s
 |i::r,s=>match exA P C i s with
  |some s'=>exV P C r s'
  |none=>none
def C2x(P:Program)(C:Q9)(s s':St):List (List AI)→Bool
 | []=>true
 |l::r=>match exV P C l s with
  |some s2=>C7S s2 s'&&C2x P C s s' r
  |none=>false
def D3k(P:Program)(C:Q9)(s:St):List (List AI)→Option St
 | []=>none
 |l::r=>match exV P C l s with
  |some s'=>bif C2x P C s s' r then some s' else none
  |none=>none
section
variable {P:Program} {C:Q9} {k:Res}
theorem B0G{K':St→Prop}{d:Option Nat}{sl:List (Nat×V)}{x:V×A2×Nat}(h:K' (C6t d sl x)):fin d sl K' x.1 x.2.1 x.2.2:=by
 cases d<;>exact h
theorem C6o(k:N9 P C){i:AI}{s s':St}{K':St→Prop}(a:exA P C i s=some s')(f:K' s'):G4 P i s K':=by
 have c: ∀{t:St} {g:List (Nat×V)},(exO P C t i.o).map (C6t i.d g)=some s'→C3 P i.o t (fin i.d g K'):=by
  intro t g h
  obtain⟨x,n,m⟩:=Option.map_eq_some_iff.1 h
  exact C6p k ⟨x,n,B0G (by rw [m];exact f)⟩
 unfold exA at a
 unfold G4
 split at a
 ·rename_i e
  rw [e]
  exact c a
 ·rename_i j w e
  rw [e]
  simp only
  split at a
  ·rename_i b d
   rw [d]
   cases b<;>cases w<;>simp only [bEq,cond_true,cond_false]at a<;>refine⟨fun e=> ?_,fun e=> ?_⟩
   any_goals (cases e;done)
   ·exact c a
   ·exact Ko
   ·exact Ko
   ·exact c a
  ·rename_i u l
   rw [l]
   cases d:B2H u with
   |false=>rw [d]at a;cases a
   |true=>
    rw [d]at a
    injection a with a
    exact⟨d,B0G (x:=(.cst Go.undef,s.h,s.n)) (by rw [a];exact f)⟩
  ·cases a
theorem B3C(h:N9 P C){K':St→Prop}{s':St}(a:K' s'): ∀{l:List AI} {s:St},exV P C l s=some s'→vo P l K' s
 | [],_,hg=>by injection hg with hg;subst hg;exact a
 |i::r,s,hg=>by
  simp only [exV]at hg
  split at hg
  ·rename_i t b;exact C6o (K':=vo P r K') h b (B3C h a hg)
  ·cases hg
theorem B4L(a:N9 P C){K':St→Prop}{s s':St}(h:K' s'): ∀{l:List (List AI)},C2x P C s s' l=true→B4Q P l K' s
 | [],_=>trivial
 | l::r,hg=>by
  simp only [C2x]at hg
  split at hg
  ·rename_i t b
   simp only [Bool.and_eq_true]at hg
   rw [C7T hg.1]at b
   exact⟨B3C a h b,B4L a h hg.2⟩
  ·cases hg
theorem C3s(b:N9 P C){K':St→Prop}{s s':St}(a:K' s'): ∀{l:List (List AI)},D3k P C s l=some s'→B4Q P l K' s
 | [],h=>by cases h
 | l::r,hg=>by
  simp only [D3k]at hg
  split at hg
  ·rename_i t c
   cases hb:C2x P C s t r with
   |false=>rw [hb]at hg;cases hg
   |true=>
    rw [hb,cond_true]at hg
    injection hg with hg
    subst hg
    exact⟨B3C b a c,B4L b a hb⟩
  ·cases hg
def nmB:Nat:=1000000000000
def low(f b st:Nat):Bool:=Nat.blt b nmB&&Nat.ble f st
section
variable (f:Nat)
mutual
def C0d:V→V
 | .sl b st i n=>bif low f b st then .sl (nmB+st) st i n else .sl b st i n
 | .ptr b st i n=>bif low f b st then .ptr (nmB+st) st i n else .ptr b st i n
 | .mp b st=>bif low f b st then .mp (nmB+st) st else .mp b st
 | .agg l=> .agg (renL l)
 | .tup l=> .tup (renL l)
 |v=>v
def renL:List V→List V
 | []=> []
 |a::r=>C0d a::renL r
end
mutual
def C8X:V→Bool
 | .sl _ st _ _=>Nat.ble f st
 | .ptr _ st _ _=>Nat.ble f st
 | .mp _ st=>Nat.ble f st
 | .agg l=>menL l
 | .tup l=>menL l
 | .fn _ _=>true
 |_=>false
def menL:List V→Bool
 | []=>false
 |a::r=>C8X a||menL r
end
end
mutual
theorem B3T(f:Nat): ∀v:V,I3 v (C0d f v)
 | .sl b s i n=>by rw [C0d];cases low f b s<;>exact .sl
 | .ptr b s i n=>by rw [C0d];cases low f b s<;>exact .ptr
 | .mp b s=>by rw [C0d];cases low f b s<;>exact .mp
 | .agg l=>by rw [C0d];exact .agg (renL_same f l)
 | .tup l=>by rw [C0d];exact .tup (renL_same f l)
 | .undef=> .refl _
 | .bool _=> .refl _
 | .int _ _=> .refl _
 | .str _=> .refl _
 | .nilp=> .refl _
 | .nils=> .refl _
 | .isl _=> .refl _
 | .iptr _ _ _=> .refl _
 | .nilm=> .refl _
 | .fn _ _=> .refl _
 | .yld _ _=> .refl _
 | .cst _=> .refl _
 | .err=> .refl _
 | .anyi _=> .refl _
theorem renL_same(f:Nat): ∀l:List V,A3O l (renL f l)
 | []=>by rw [renL];trivial
 |a::r=>by rw [renL];exact⟨B3T f a,renL_same f r⟩
end
def D6X(f:Nat):Blk→Blk
 | .rows sz rs=> .rows sz (rs.map (renL f))
 | .map es=> .map es
 |b=>b
theorem C6Y(f:Nat)(b:Blk):L1 b (D6X f b):=by
 cases b with
 |map e=>exact .refl _
 |loop=>exact .refl _
 |mapb=>exact .refl _
 |iter=>exact .refl _
 |raw=>exact .refl _
 |rows s d=>
  refine .rows zf fun i g h=> ?_
  rw [List.getElem?_map]at h
  obtain⟨r,c,a⟩:=Option.map_eq_some_iff.1 h
  exact⟨r,c,a ▸ renL_same f r⟩
def D6P(f:Nat):Blk→Bool
 | .rows _ rs=>rs.any (menL f)
 | .map es=>es.any fun p=>C8X f p.1||C8X f p.2
 | .loop .. =>true
 | .mapb .. =>true
 | .iter .. =>true
 | .raw .. =>true
def C6Z(f:Nat):A2→Nat→Nat
 | [],b=>b
 |e::r,b=>bif Nat.beq e.1 b then(bif low f e.1 e.2.1 then nmB+e.2.1 else b)else C6Z f r b
def gone:Option Nat→Nat→Bool
 |some m,st=>Nat.ble m st
 |none,_=>false
def C3Z(f:Nat)(d:Option Nat)(h0:A2):A2→A2
 | []=> []
 |e::r=>bif gone d e.2.1 then C3Z f d h0 r else(C6Z f h0 e.1,e.2.1,D6X f e.2.2)::C3Z f d h0 r
theorem B0L(f:Nat)(d:Option Nat)(a:A2): ∀h:A2,(∀e∈h,e∈a)→A0z (C6Z f a) a (C3Z f d a h)
 | [],_=>trivial
 |e::r,hm=>by
  simp only [C3Z]
  have:=B0L f d a r fun x b=>hm x (List.mem_cons_of_mem _ b)
  cases gone d e.2.1
  ·exact⟨⟨e,hm e List.mem_cons_self,rfl,rfl,C6Y f _⟩,this⟩
  ·exact this
def C9z(f:Nat)(s0:List (Nat×V)):List (Nat×V)→List (Nat×V)
 | []=> []
 |p::r=>(p.1,C0d f (D9 s0 p.1))::C9z f s0 r
theorem B6O(f:Nat)(s0:List (Nat×V)): ∀s:List (Nat×V),A9e s0 (C9z f s0 s)
 | []=>trivial
 |p::r=>⟨B3T f _,B6O f s0 r⟩
def D6Y(f:Nat)(s:St):St:=⟨C9z f s.sl s.sl,C3Z f none s.h s.h,s.n⟩
theorem D1k(f:Nat)(s:St):Wk s (D6Y f s):= .turn (C6Z f s.h) (B6O _ _ _) (B0L _ _ _ _ fun _ h=>h)
def C6z(h:A2)(b:Nat):Bool:=h.any fun e=>Nat.beq e.1 b
def D6T(h:A2):AO→Bool
 | .box nm _ _=>C6z h nm
 | .mkrow nm _ _=>C6z h nm
 | .mksl nm _ _=>C6z h nm
 | .mkmap nm=>C6z h nm
 | .app nm _ _ _=>C6z h nm
 | .apb _ nm _ _ _=>C6z h nm
 |_=>false
def D2k(h:A2):List (List AI)→Bool
 | []=>false
 |l::_=>l.any fun i=>D6T h i.o
def D4C(f:Nat)(l:List (List AI))(s:St):St:=bif D2k s.h l then D6Y f s else s
theorem D1G(f:Nat)(l:List (List AI))(s:St):Wk s (D4C f l s):=by
 unfold D4C
 cases D2k s.h l
 ·exact .refl _
 ·exact D1k f s
def C6h(f:Nat)(x:V×A2×Nat):V×A2×Nat:=
 bif x.2.1.any (fun e=>Nat.ble f e.2.1)then
  (bif C8X f x.1||x.2.1.any (fun e=>Nat.blt e.2.1 f&&D6P f e.2.2)then(C0d f x.1,C3Z f none x.2.1 x.2.1,x.2.2)else(x.1,C3Z f (some f) x.2.1 x.2.1,x.2.2))
 else x
theorem D0H(f:Nat)(x:V×A2×Nat):Wk ⟨[(0,x.1)],x.2.1,x.2.2⟩ ⟨[(0,(C6h f x).1)],(C6h f x).2.1,(C6h f x).2.2⟩:=by
 unfold C6h
 cases x.2.1.any (fun e=>Nat.ble f e.2.1)
 ·exact .refl _
 ·simp only [cond_true]
  cases C8X f x.1||x.2.1.any (fun e=>Nat.blt e.2.1 f&&D6P f e.2.2)
  ·exact .turn (C6Z f x.2.1) ⟨.refl _,trivial⟩ (B0L _ _ _ _ fun _ h=>h)
  ·exact .turn (C6Z f x.2.1) ⟨B3T f _,trivial⟩ (B0L _ _ _ _ fun _ h=>h)
theorem C6i{P:Program}{g:FuncId}{c:List V}{h:A2}{n:Nat}{k:Res}{o:t8}(f: ∀k,Good o k→A0 P g c h n k)(e:Good (o.map (C6h n)) k):A0 P g c h n k:=by
 obtain⟨y,i,d⟩:=e
 obtain⟨x,j,rfl⟩:=Option.map_eq_some_iff.1 i
 refine(f (fun r a b=>(r,a,b)=x) ⟨x,j,rfl⟩).wk ?_
 rintro r a b rfl
 exact⟨_,_,_,D0H n (r,a,b),d⟩
def D1l(rs:List RV)(s:St):t8:=
 match A9y s rs with
 |some vs=>K2 (B2K vs) s.h s.n
 |none=>none
def exG(P:Program)(C:Q9)(rs:List RV)(f:Nat):Nat→List AItem→St→t8
 |0,_,_=>none
 |_+1,[],s=>D1l rs s
 |m+1,.code .skip::k,s=>exG P C rs f m k s
 |m+1,.code (.ops l)::k,s=>match D3k P C (D4C f l s) l with
  |some s'=>exG P C rs f m k s'
  |none=>none
 |_+1,.code .bad::_,_=>none
 |m+1,.code (.seq a b)::k,s=>exG P C rs f m (.code a:: .code b::k) s
 |m+1,.code (.cond x a b)::k,s=>match s.ev x with
  | .bool true=>exG P C rs f m (.code a::k) s
  | .bool false=>exG P C rs f m (.code b::k) s
  |_=>none
 |m+1,.code (.block id a)::k,s=>exG P C rs f m (.code a:: .blk id::k) s
 |m+1,.code (.loop a)::k,s=>exG P C rs f m (.code a:: .lp a::k) s
 |m+1,.code (.exit id)::k,s=>match Nat.beq 999999999 id,A0O id k with
  |false,some k'=>exG P C rs f m k' s
  |_,_=>none
 |_+1,.code .ret::_,s=>D1l rs s
 |m+1,.blk _::k,s=>exG P C rs f m k s
 |m+1,.lp a::k,s=>exG P C rs f m (.code a:: .lp a::k) s
 |m+1,.code (.dfr d)::k,s=>exG P C rs f m k ⟨I2 s.sl d .undef,s.h,s.n⟩
 |_+1,.code (.rng ..)::_,_=>none
 |_+1,.beg::_,_=>none
theorem B8N{N:Nat}{rs:List RV}{s:St}(h:Good (D1l rs s) k):C7b ⟨P,N,rs,k,none⟩ s:=by
 unfold D1l at h
 unfold C7b
 split at h
 ·rename_i v a
  simp only
  rw [a]
  exact h.one
 ·exact h.no.elim
theorem U2(h:N9 P C){N:Nat}{rs:List RV}{f:Nat}: ∀{m:Nat} {l:List AItem} {s:St},Good (exG P C rs f m l s) k→Run ⟨P,N,rs,k,none⟩ l s
 |0,_,_,hg=>hg.no.elim
 |m+1,[],s,hg=>Run.go 1 (B8N hg)
 |m+1,.code .skip::l,s,hg=>Run.go 1 (U2 h (m:=m) hg)
 |m+1,.code (.ops is)::l,s,hg=>by
  simp only [exG]at hg
  split at hg
  ·rename_i t p;exact Run.wk (D1G f is s) (Run.go 1 (C3s h (U2 h (m:=m) hg) p))
  ·exact hg.no.elim
 |m+1,.code .bad::_,_,hg=>hg.no.elim
 |m+1,.code (.seq a b)::l,s,hg=>Run.go 1 (U2 h (m:=m) hg)
 |m+1,.code (.cond x a b)::l,s,hg=>by
  simp only [exG]at hg
  split at hg
  ·rename_i j;exact fun i g c=>OK.cond j (fun _=>U2 h (m:=m) hg i g c) (fun e=>by cases e)
  ·rename_i j;exact fun i g c=>OK.cond j (fun e=>by cases e) (fun _=>U2 h (m:=m) hg i g c)
  ·exact hg.no.elim
 |m+1,.code (.block id a)::l,s,hg=>Run.go 1 (U2 h (m:=m) hg)
 |m+1,.code (.loop a)::l,s,hg=>Run.loop (U2 h (m:=m) hg)
 |m+1,.code (.exit id)::l,s,hg=>by
  simp only [exG]at hg
  split at hg
  ·rename_i q n o;exact fun i g c=>OK.exit n o (U2 h (m:=m) hg i g c)
  ·exact hg.no.elim
 |m+1,.code .ret::_,s,hg=>Run.go 1 (B8N hg)
 |m+1,.blk _::l,s,hg=>Run.go 1 (U2 h (m:=m) hg)
 |m+1,.lp a::l,s,hg=>Run.lp (U2 h (m:=m) hg)
 |m+1,.code (.dfr d)::l,s,hg=>Run.go 1 (U2 h (m:=m) hg)
 |m+1,.code (.rng ..)::_,_,hg=>hg.no.elim
 |m+1,.beg::_,_,hg=>hg.no.elim
end
def exC(P:Program)(T:List (FuncId×Nat×AC×List RV))(lib:Q9)(m:Nat):Nat→Q9
 |0,_,_,_,_=>none
 | d+1,f,xs,h,n=>match lib f xs h n with
  |some l=>some l
  |none=>match look T f with
   |some e=>(gE (Nat.ble xs.length e.1) (exG P (exC P T lib m d) e.2.2 n m [.code e.2.1] ⟨A4 0 xs,h,n⟩)).map (C6h n)
   |none=>none
where
 look:List (FuncId×Nat×AC×List RV)→FuncId→Option (Nat×AC×List RV)
  | [],_=>none
  |e::r,f=>bif Nat.beq e.1 f then some e.2 else look r f
def A6S(P:Program)(T:List (FuncId×Nat×AC×List RV)):Prop:= ∀e∈T,B8 P e.1=some e.2
theorem A6S.nil{P:Program}:A6S P []:=fun e h=>by cases h
theorem A6S.cons{P:Program}{T:List (FuncId×Nat×AC×List RV)}{f N:Nat}{ac:AC}{rs:List RV}(h:B8 P f=some (N,ac,rs))(b:A6S P T):A6S P ((f,N,ac,rs)::T):=fun e a=>by
 rcases List.mem_cons.1 a with rfl|a
 ·exact h
 ·exact b e a
theorem A6S.look{P:Program}: ∀{T:List (FuncId×Nat×AC×List RV)},A6S P T→ ∀{f:FuncId} {c},exC.look T f=some c→B8 P f=some c
 | [],_,f,c,h=>by cases h
 | e::r,hT,f,c,h=>by
  simp only [exC.look]at h
  cases hb:Nat.beq e.1 f with
  |true=>
   rw [hb]at h;injection h with h
   rw [←Nat.eq_of_beq_eq_true hb,←h];exact hT e List.mem_cons_self
  |false=>rw [hb]at h;exact A6S.look (fun e a=>hT e (List.mem_cons_of_mem _ a)) h
def C1H:Q9:=fun _ _ _ _=>none
theorem B2G{P:Program}:N9 P C1H:=fun _ _ _ _ _ h=>h.no.elim
theorem B8f{P:Program}{T:List (FuncId×Nat×AC×List RV)}{b:Q9}(g:A6S P T)(i:N9 P b){m:Nat}: ∀{d:Nat},N9 P (exC P T b m d)
 |0,_,_,_,_,_,a=>a.no.elim
 | d+1,f,xs,h,n,k,a=>by
  simp only [exC]at a
  split at a
  ·rename_i l c;exact i f xs h n k (by rw [c];exact a)
  ·split at a
   ·rename_i e c
    refine C6i (fun k a=> ?_) a
    obtain⟨j,a⟩:=a.g
    exact A0.enter (N:=e.1) (ac:=e.2.1) (rs:=e.2.2) (g.look c) (Nat.le_of_ble_eq_true j) (U2 (B8f g i) a)
   ·exact Xv
def exR(P:Program)(T:List (FuncId×Nat×AC×List RV))(lib:Q9)(m d:Nat)(fr:Nat)(f:FuncId)(xs:List V):Option V:=
 (exC P T lib m d f xs [] 0).map fun x=>frz fr x.2.1 x.1
theorem Pure.exec{P:Program}{T:List (FuncId×Nat×AC×List RV)}{l:Q9}(b:A6S P T)(e:N9 P l){m d fr:Nat}{f:FuncId}{a:List V}{r:V}(h:exR P T l m d fr f a=some r):Pure P f a r:=by
 refine Pure.of fr (B8f (d:=d) (m:=m) b e f a [] 0 _ ?_)
 obtain⟨x,g,c⟩:=Option.map_eq_some_iff.1 h
 exact⟨x,g,c⟩
def eqR(o:Option V)(r:V):Bool:=
 match o with
 |some v=>V.beq v r
 |none=>false
theorem Pure.execB{P:Program}{T:List (FuncId×Nat×AC×List RV)}{l:Q9}(a:A6S P T)(c:N9 P l){m d fr:Nat}{f:FuncId}{x:List V}{r:V}(h:eqR (exR P T l m d fr f x) r=true):Pure P f x r:=by
 unfold eqR at h
 split at h
 ·rename_i v b;exact Pure.exec a c (by rw [b,V.beq_eq h])
 ·cases h
def lps:AC→List AC
 | .seq a b=>lps a++lps b
 | .cond _ a b=>lps a++lps b
 | .block _ a=>lps a
 | .loop a=>a::lps a
 | .rng _ _ _ a b=>a::b::(lps a++lps b)
 |_=> []
noncomputable def cdO (P:Program) (f:Nat):AC:=match B8 P f with
 |some (_,a,_)=>a
 |none=> .bad
noncomputable def lpO (P:Program) (f k:Nat):AC:=(lps (cdO P f))[k]?.getD .bad
end
end Go.Abs
