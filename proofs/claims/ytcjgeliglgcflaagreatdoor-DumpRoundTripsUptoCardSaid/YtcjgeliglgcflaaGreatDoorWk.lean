/-
 Weakening of abstract states; pointers given up; calls that need a part of the heap. No condition.
-/
import Derived.Test.YtcjgeliglgcflaaGreatDoorSim
set_option linter.unusedVariables false
set_option linter.unusedSimpArgs false
namespace Go.Abs
def Wk(s s':St):Prop:= ∀w O ρ,HeapR w O ρ s.n s.h→ ∃ρ',HeapR w O ρ' s'.n s'.h∧Ext (A4 w O ρ s.n s.h) (A4 w O ρ' s'.n s'.h)∧
 ∀a:Nat→Value,(∀i,R (A4 w O ρ s.n s.h) (C8 s.sl i) (a i))→ ∀i,R (A4 w O ρ' s'.n s'.h) (C8 s'.sl i) (a i)
theorem Wk.refl(s:St):Wk s s:=fun w O ρ hr=>⟨ρ,hr,Ext.refl _,fun _ h=>h⟩
theorem Wk.trans{a b c:St}(h1:Wk a b)(h2:Wk b c):Wk a c:=by
 intro w O ρ hr
 obtain⟨ρ1,r1,x1,v1⟩:=h1 w O ρ hr
 obtain⟨ρ2,r2,x2,v2⟩:=h2 w O ρ1 r1
 exact⟨ρ2,r2,x1.trans x2,fun a h=>v2 a (v1 a h)⟩
theorem O8.wk{s s':St}(hw:O8 s s'):Wk s s':=by
 intro w O ρ hr
 obtain⟨h1,h2,h3⟩:=hw
 obtain⟨hr1,hx1⟩:=hr.drop h2
 obtain⟨hr2,hx2⟩:=hr1.up h3
 refine⟨ρ,hr2,hx1.trans hx2,fun a ha i=> ?_⟩
 rcases B1e (sl:=s'.sl) i with hu|hm
 ·rw [hu];exact .undef _
 ·have:=h1 _ hm
  simp only at this
  rw [this]
  exact((ha i).mono hx1).mono hx2
theorem OK.wk{c:Cx}{k:List AItem}{s s':St}(hw:Wk s s')(h:OK c k s'):OK c k s:=by
 intro O ρ a w k' b cs hr hs hd hk
 obtain⟨ρ',hr',hx,hv⟩:=hw w O ρ hr
 exact(h O ρ' a w k' b cs hr' ⟨hs.size,fun b0 e=>Nat.le_trans (hs.base b0 e) hx.size,hs.defers.mono hx,hv _ hs.slot⟩ (hd.mono hx.n hx.ρ) hk).step (Steps.refl _ _) hx
theorem Run.wk{c:Cf}{k:List AItem}{s s':St}(hw:Wk s s')(h:Run c k s'):Run c k s:=fun fn bs hrs=>OK.wk hw (h fn bs hrs)
theorem Run.roundsK{c:Cf}{k:List AItem}{s:St}{α:Type}{x:AC}(S:α→St)(J:α→Prop)(μ:α→Nat)(x0:α)(hw:Wk s (S x0))(h0:J x0)
  (round: ∀y,J y→(∀s z,J z→μ z<μ y→Wk s (S z)→Run c (.lp x::k) s)→Run c (.code x:: .lp x::k) (S y)):Run c (.code (.loop x)::k) s:=by
 have key: ∀m y,μ y=m→J y→Run c (.code x:: .lp x::k) (S y):=by
  intro m
  induction m using Nat.strongRecOn with
  |_ m ih=>
   intro y hm hJ
   exact round y hJ fun s z hz hlt hw=>Run.wk hw (Run.lp (ih (μ z) (hm ▸ hlt) z rfl hz))
 exact Run.loop (Run.wk hw (key _ x0 rfl h0))
theorem A3.wk{P:Program}{f:FuncId}{xs:List V}{h:A2}{n:Nat}{k k1:Res}(hc:A3 P f xs h n k1)
  (hk: ∀r h' n',k1 r h' n'→ ∃r2 h2 n2,Wk ⟨[(0,r)],h',n'⟩ ⟨[(0,r2)],h2,n2⟩∧k r2 h2 n2):A3 P f xs h n k:=by
 intro w O ρ cargs hr hR
 refine(hc w O ρ cargs hr hR).mono ?_
 rintro e w' ⟨v,r,h',n',ρ',rfl,hk1,hr',hRv,hx⟩
 obtain⟨r2,h2,n2,hw,hk2⟩:=hk r h' n' hk1
 obtain⟨ρ2,hr2,hx2,hv⟩:=hw w' O ρ' hr'
 refine⟨v,r2,h2,n2,ρ2,rfl,hk2,hr2,?_,hx.trans hx2⟩
 have:=hv (fun i=>if i=0 then v else Go.undef) (fun i=>by
  cases i with
  |zero=>exact hRv
  |succ i=>exact .undef _) 0
 exact this
theorem A3.pre{P:Program}{f:FuncId}{xs xs':List V}{h h':A2}{n n':Nat}{k:Res}(hw:Wk ⟨A8 0 xs,h,n⟩ ⟨A8 0 xs',h',n'⟩)(hl:xs'.length=xs.length)
  (hc:A3 P f xs' h' n' k):A3 P f xs h n k:=by
 intro w O ρ cargs hr hR
 obtain⟨ρ',hr',hx,hv⟩:=hw w O ρ hr
 refine(hc w O ρ' cargs hr' ⟨hl.trans hR.1,fun i c v hc hv'=> ?_⟩).mono ?_
 ·have:=hv (fun i=>cargs.getD i Go.undef) (fun i=>by
   simp only [A0r,Nat.zero_le,if_true,Nat.sub_zero]
   cases hi:xs[i]? with
   |none=>exact .undef _
   |some y=>
    have hlt:i<cargs.size:=by rw [←hR.1];exact(List.getElem?_eq_some_iff.1 hi).1
    have e:cargs[i]? =some cargs[i]:=by simp [hlt]
    simp only [Option.getD_some,Array.getD_eq_getD_getElem?,e]
    exact hR.2 i y _ hi e) i
  simp only [A0r,Nat.zero_le,if_true,Nat.sub_zero,hc,Option.getD_some,Array.getD_eq_getD_getElem?,hv']at this
  exact this
 ·rintro e w' ⟨v,r,h2,n2,ρ2,rfl,hk1,hr2,hRv,hx2⟩
  exact⟨v,r,h2,n2,ρ2,rfl,hk1,hr2,hRv,hx.trans hx2⟩
def A2H(k:Res)(r:V)(h:A2)(n:Nat):Prop:= ∃r2 h2 n2,Wk ⟨[(0,r)],h,n⟩ ⟨[(0,r2)],h2,n2⟩∧k r2 h2 n2
@[congr] theorem C5u{k:Res}{r r':V}{h h':A2}{n:Nat}(e:r=r')(e1:h=h'):A2H k r h n=A2H k r' h' n:=by rw [e,e1]
theorem A2H.is{k:Res}{r:V}{h:A2}{n:Nat}(hk:k r h n):A2H k r h n:=⟨r,h,n,.refl _,hk⟩
theorem A2H.to{k:Res}{r r2:V}{h h2:A2}{n n2:Nat}(hk:k r2 h2 n2)(hw:Wk ⟨[(0,r)],h,n⟩ ⟨[(0,r2)],h2,n2⟩):A2H k r h n:=⟨r2,h2,n2,hw,hk⟩
theorem A2H.mk{k:Res}{r r2:V}{h h2:A2}{n n2:Nat}(hw:Wk ⟨[(0,r)],h,n⟩ ⟨[(0,r2)],h2,n2⟩)(hk:k r2 h2 n2):A2H k r h n:=⟨r2,h2,n2,hw,hk⟩
theorem A3.enterK{P:Program}{f:FuncId}{N:Nat}{ac:AC}{rs:List RV}{xs:List V}{h:A2}{n:Nat}{Q:Res}(hc:B3 P f=some (N,ac,rs))(hl:xs.length≤N)
  (hok: ∀Q',Q'=Q→Run ⟨P,N,rs,A2H Q',none,none⟩ [.code ac] ⟨A8 0 xs,h,n⟩):A3 P f xs h n Q:=(A3.enter hc hl (hok Q rfl)).wk fun _ _ _ h=>h
theorem J0.wk{P:Program}{b st:Nat}{xs:List V}{h:A2}{n:Nat}{k k1:Res}(hc:J0 P b st xs h n k1)
  (hk: ∀r h' n',k1 r h' n'→ ∃r2 h2 n2,Wk ⟨[(0,r)],h',n'⟩ ⟨[(0,r2)],h2,n2⟩∧k r2 h2 n2):J0 P b st xs h n k:=by
 intro w O ρ cargs hr hst hR
 obtain⟨q,a,b,c⟩:=hc w O ρ cargs hr hst hR
 refine⟨q,a,b,c.mono ?_⟩
 rintro e w' ⟨v,r,h',n',ρ',rfl,hk1,hr',hRv,hx⟩
 obtain⟨r2,h2,n2,hw,hk2⟩:=hk r h' n' hk1
 obtain⟨ρ2,hr2,hx2,hv⟩:=hw w' O ρ' hr'
 refine⟨v,r2,h2,n2,ρ2,rfl,hk2,hr2,?_,hx.trans hx2⟩
 have:=hv (fun i=>if i=0 then v else Go.undef) (fun i=>by
  cases i with
  |zero=>exact hRv
  |succ i=>exact .undef _) 0
 exact this
theorem J0.mono{P:Program}{b st:Nat}{xs:List V}{h:A2}{n:Nat}{k k1:Res}(hc:J0 P b st xs h n k1)(hk: ∀r h' n',k1 r h' n'→k r h' n'):J0 P b st xs h n k:=
 hc.wk fun r h' n' h1=>⟨r,h',n',.refl _,hk r h' n' h1⟩
theorem J0.enterK{P:Program}{b st N:Nat}{sl:List (Nat×V)}{ps:List Nat}{x y:AC}{pend:Option Code}{xs:List V}{h:A2}{n:Nat}{Q:Res}(hg:A2.get h b st=some (.loop N sl ps (d9 P N x y) .ready pend))(hl:xs.length=ps.length)
  (hok: ∀Q',Q'=Q→Run ⟨P,N,[],A2H Q',some (b,st),none⟩ [.code x,.beg,.code y] ⟨A4I sl ps xs,h,n⟩):J0 P b st xs h n Q:=
 (J0.enter (Q:=A2H Q) hg hl fun fn=>hok Q rfl fn (some 0) ⟨(fun h=>by cases h),rfl,.inl rfl⟩).wk fun _ _ _ h=>h
theorem A2H.wk{k:Res}{r r2:V}{h h2:A2}{n n2:Nat}(hw:Wk ⟨[(0,r)],h,n⟩ ⟨[(0,r2)],h2,n2⟩)(hp:A2H k r2 h2 n2):A2H k r h n:=by
 obtain⟨r3,h3,n3,hw3,hk⟩:=hp
 exact⟨r3,h3,n3,hw.trans hw3,hk⟩
theorem Wk.fresh(b sz:Nat)(sl:List (Nat×V))(h:A2)(n:Nat):Wk ⟨sl,h,n⟩ ⟨sl,A2.put h b n (.rows sz []),n+1⟩:=by
 intro w O ρ hr
 let ρ':Nat→Loc:=fun st=>if st=n then⟨0,0,sz,0⟩else ρ st
 have hn:ρ' n=⟨0,0,sz,0⟩:=by simp [ρ']
 obtain⟨a2,a3⟩:=HeapR.step (w':=w) (ρ':=ρ') (n':=n+1) (b:=b) (st:=n) (x:= .rows sz []) hr (Nat.le_succ _) (fun st hst=>by simp [ρ',Nat.ne_of_lt hst]) (Nat.lt_succ_self _) (Wd.refl _)
  (fun _ _ _=>rfl) (.inl (by rw [hn])) (fun _=>⟨by simp [hn],by simp,fun h=>by simp [hn]at h,by simp⟩)
 exact⟨ρ',a2,a3,fun a ha i=>(ha i).mono a3⟩
theorem HeapR.turn{w:World}{O:Nat→Prop}{ρ:Nat→Loc}{n:Nat}{h h2:A2}(hr:HeapR w O ρ n h)
  (g:Nat→Nat) (hg: ∀e2∈h2,∃e∈h,e2.1=g e.1∧e2.2.1=e.2.1∧(A7P (A4 w O ρ n h) e.2.1 e.2.2→A7P (A4 w O ρ n h) e.2.1 e2.2.2)):HeapR w O ρ n h2∧Ext (A4 w O ρ n h) (A4 w O ρ n h2):=by
 have hown: ∀x,Own ρ h2 x→Own ρ h x:=by
  rintro x ⟨e2,he2,hc,hb⟩
  obtain⟨e,he,_,h2,_⟩:=hg e2 he2
  exact⟨e,he,by rw [←h2];exact hc,by rw [←h2];exact hb⟩
 have hx:Ext (A4 w O ρ n h) (A4 w O ρ n h2):=⟨rfl,Nat.le_refl _,fun _ _=>rfl,Wd.refl _,fun x _ ho=>⟨rfl,fun h=>ho (hown x h)⟩⟩
 refine⟨⟨fun e2 he2=> ?_,fun e2 he2 e2' he2' hne hc hc'=> ?_,hr.out,fun e2 he2 hc=> ?_,fun e2 he2=> ?_,hr.gl.mono hx.imm⟩,hx⟩
 ·obtain⟨e,he,_,h2,_⟩:=hg e2 he2
  rw [h2];exact hr.lt e he
 ·obtain⟨e,he,h1,h2,_⟩:=hg e2 he2
  obtain⟨e',he',h1',h2',_⟩:=hg e2' he2'
  rw [h2]at hc⊢
  rw [h2']at hc'⊢
  exact hr.inj e he e' he' (fun h=>hne (by rw [h1,h1',h])) hc hc'
 ·obtain⟨e,he,h1,h2,_⟩:=hg e2 he2
  rw [h2]at hc⊢
  exact hr.notO e he hc
 ·obtain⟨e,he,h1,h2,hs⟩:=hg e2 he2
  rw [h2]
  exact(hs (hr.blk e he)).mono hx (hr.lt e he) fun _=>rfl
def L8(v v2:V):Prop:= ∀E x,R E v x→R E v2 x
def A3D:List V→List V→Prop
 | [],[]=>True
 |a::r,b::s=>L8 a b∧A3D r s
 |_,_=>False
def f0(b b2:Blk):Prop:= ∀E st,A7P E st b→A7P E st b2
theorem L8.refl(v:V):L8 v v:=fun _ _ h=>h
theorem L8.sl{b b2 st i n:Nat}:L8 (.sl b st i n) (.sl b2 st i n):=fun E x h=>by
 cases h with
 |sl _ _ _ _ cap h1 h2 h3=>exact .sl b2 st i n cap h1 h2 h3
 |sl0 _ _ _ a=>exact .sl0 b2 st i a
theorem L8.sl'{b b2 st i n n2:Nat}(h:n=n2):L8 (.sl b st i n) (.sl b2 st i n2):=h ▸ .sl
theorem L8.of_eq{v v2:V}(h:v=v2):L8 v v2:=h ▸ .refl v
theorem L8.ptr{b b2 st i n:Nat}:L8 (.ptr b st i n) (.ptr b2 st i n):=fun E x h=>by
 cases h with
 |ptr _ _ _ _ h1=>exact .ptr b2 st i n h1
theorem L8.mp{b b2 st:Nat}:L8 (.mp b st) (.mp b2 st):=fun E x h=>by
 cases h with
 |mp _ _ h1=>exact .mp b2 st h1
theorem L8.yld{b b2 st:Nat}:L8 (.yld b st) (.yld b2 st):=fun E x h=>by
 cases h with
 |yld _ _ h1=>exact .yld b2 st h1
theorem L8.nils{b st i:Nat}:L8 .nils (.sl b st i 0):=fun E x h=>by
 rw [h.nils_inv];exact .sl0 _ _ _ _
theorem L8.undef(v:V):L8 v .undef:=fun E x h=> .undef _
theorem A3D.refl: ∀l:List V,A3D l l
 | []=>trivial
 |a::r=>⟨.refl a,A3D.refl r⟩
theorem A3D.get: ∀{l l2:List V},A3D l l2→l2.length=l.length∧ ∀(i:Nat) c2,l2[i]? =some c2→ ∃c,l[i]? =some c∧L8 c c2
 | [],[],_=>⟨rfl,fun i c h=>by simp at h⟩
 |a::r,b::s,h=>by
  obtain⟨h1,h2⟩:=A3D.get h.2
  refine⟨by simp [h1],fun i c2 hi=> ?_⟩
  cases i with
  |zero=>simp at hi;subst hi;exact⟨a,rfl,h.1⟩
  |succ i=>exact h2 i c2 (by simpa using hi)
 | [],_::_,h=>h.elim
 |_::_,[],h=>h.elim
theorem L8.agg{l l2:List V}(h:A3D l l2):L8 (.agg l) (.agg l2):=fun E x hx=>by
 obtain⟨h1,h2⟩:=h.get
 obtain⟨vs,rfl,hl,h3,hR⟩:=hx.agg_inv
 refine .agg _ vs (h1.trans hl) h3 fun i c v hc hv=> ?_
 obtain⟨c0,hc0,hs⟩:=h2 i c hc
 exact hs E v (hR i c0 v hc0 hv)
theorem L8.tup{l l2:List V}(h:A3D l l2):L8 (.tup l) (.tup l2):=fun E x hx=>by
 obtain⟨h1,h2⟩:=h.get
 cases hx with
 |tup _ vs hl hR=>
  refine .tup _ vs (h1.trans hl) fun i c v hc hv=> ?_
  obtain⟨c0,hc0,hs⟩:=h2 i c hc
  exact hs E v (hR i c0 v hc0 hv)
theorem f0.refl(b:Blk):f0 b b:=fun _ _ h=>h
theorem f0.of_eq{b b2:Blk}(h:b=b2):f0 b b2:=h ▸ .refl b
theorem f0.rows{sz:Nat}{rs rs2:List (List V)}(hl:rs2.length≤rs.length)(hr: ∀(i:Nat) r2,rs2[i]? =some r2→ ∃r,rs[i]? =some r∧A3D r r2):f0 (.rows sz rs) (.rows sz rs2):=by
 rintro E st ⟨h1,h2,h3,h4⟩
 refine⟨h1,Nat.le_trans hl h2,h3,fun i row hi=> ?_⟩
 obtain⟨r,hr1,hs⟩:=hr i row hi
 obtain⟨h5,h6⟩:=h4 i r hr1
 obtain⟨s1,s2⟩:=hs.get
 refine⟨s1.trans h5,fun j c2 hj=> ?_⟩
 obtain⟨c,hc,hs⟩:=s2 j c2 hj
 obtain⟨x,x1,x2,x3⟩:=h6 j c hc
 exact⟨x,x1,x2,hs _ _ x3⟩
theorem f0.row{sz:Nat}{r r2:List V}(hr:A3D r r2):f0 (.rows sz [r]) (.rows sz [r2]):=
 .rows (Nat.le_refl _) fun i r' hi=>by
  cases i with
  |zero=>simp at hi;subst hi;exact⟨r,rfl,hr⟩
  |succ i=>simp at hi
theorem f0.take{sz:Nat}{rs:List (List V)}(k:Nat):f0 (.rows sz rs) (.rows sz (rs.take k)):=
 .rows (by simp;omega) fun i r' hi=>by
  rw [List.getElem?_take]at hi
  split at hi
  ·exact⟨r',hi,.refl r'⟩
  ·cases hi
def B1n(sl:List (Nat×V)):List (Nat×V)→Prop
 | []=>True
 |p::r=>L8 (C8 sl p.1) p.2∧B1n sl r
def y4(g:Nat→Nat)(h:A2):A2→Prop
 | []=>True
 |e2::r=>(∃e∈h,e2.1=g e.1∧e2.2.1=e.2.1∧f0 e.2.2 e2.2.2)∧y4 g h r
theorem B1n.get{sl:List (Nat×V)}: ∀{l:List (Nat×V)},B1n sl l→ ∀p∈l,L8 (C8 sl p.1) p.2
 | [],_,p,h=>by cases h
 |q::r,hs,p,h=>by
  rcases List.mem_cons.1 h with rfl|h
  ·exact hs.1
  ·exact B1n.get hs.2 p h
theorem y4.get{g:Nat→Nat}{h:A2}: ∀{l:A2},y4 g h l→ ∀e2∈l,∃e∈h,e2.1=g e.1∧e2.2.1=e.2.1∧f0 e.2.2 e2.2.2
 | [],_,p,h=>by cases h
 |q::r,hs,p,h=>by
  rcases List.mem_cons.1 h with rfl|h
  ·exact hs.1
  ·exact y4.get hs.2 p h
theorem y4.append{g:Nat→Nat}{h:A2}: ∀{l l2:A2},y4 g h l→y4 g h l2→y4 g h (l++l2)
 | [],_,_,h=>h
 |_::_,_,h1,h2=>⟨h1.1,y4.append h1.2 h2⟩
theorem y4.of{g:Nat→Nat}{h:A2}: ∀{l:A2},(∀e2∈l,∃e∈h,e2.1=g e.1∧e2.2.1=e.2.1∧f0 e.2.2 e2.2.2)→y4 g h l
 | [],_=>trivial
 |q::r,h=>⟨h q List.mem_cons_self,y4.of fun e he=>h e (List.mem_cons_of_mem _ he)⟩
theorem y4.at{g:Nat→Nat}{h r:A2}{b b2 st:Nat}{x x2:Blk}(i:Nat)(hi:h[i]? =some (b,st,x))(hb:b2=g b)(hs:f0 x x2)(hr:y4 g h r):y4 g h ((b2,st,x2)::r):=
 ⟨⟨_,List.mem_of_getElem? hi,hb,rfl,hs⟩,hr⟩
theorem Wk.sub{r:V}{h h2:A2}{n:Nat}(hs:A8u h h2):Wk ⟨[(0,r)],h,n⟩ ⟨[(0,r)],h2,n⟩:=O8.wk ⟨fun p hp=>by
 rw [List.mem_singleton.1 hp];rfl,A9G.1 hs,Nat.le_refl _⟩
theorem Wk.turn(g:Nat→Nat){sl sl':List (Nat×V)}{h h':A2}{n:Nat}(hs:B1n sl sl')(hh:y4 g h h'):Wk ⟨sl,h,n⟩ ⟨sl',h',n⟩:=by
 intro w O ρ hr
 obtain⟨hr',hx⟩:=hr.turn g fun e2 he2=>by
  obtain⟨e,he,a,b,c⟩:=hh.get e2 he2
  exact⟨e,he,a,b,c _ _⟩
 refine⟨ρ,hr',hx,fun a ha i=> ?_⟩
 rcases B1e (sl:=sl') i with hu|hm
 ·simp only [hu];exact .undef _
 ·exact(hs.get _ hm _ _ (ha i)).mono hx
def Frz(st:Nat)(rs:List (List V))(v v2:V):Prop:=
 ∀E,(∀b i m x,i+m≤rs.length→R E (.sl b st i m) x→R E (.isl ((rs.drop i).take m)) x)→ ∀x,R E v x→R E v2 x
def B1l(st:Nat)(rs:List (List V)):List V→List V→Prop
 | [],[]=>True
 |a::r,b::s=>Frz st rs a b∧B1l st rs r s
 |_,_=>False
def A7R(st:Nat)(rs:List (List V))(b b2:Blk):Prop:=
 ∀E,(∀b i m x,i+m≤rs.length→R E (.sl b st i m) x→R E (.isl ((rs.drop i).take m)) x)→ ∀st',A7P E st' b→A7P E st' b2
theorem Frz.of{st:Nat}{rs:List (List V)}{v v2:V}(h:L8 v v2):Frz st rs v v2:=fun E _ x hx=>h E x hx
theorem Frz.sl{st:Nat}{rs:List (List V)}{b i m:Nat}(h:i+m≤rs.length):Frz st rs (.sl b st i m) (.isl ((rs.drop i).take m)):=fun E hE x hx=>hE b i m x h hx
theorem Frz.all{st:Nat}{rs:List (List V)}{b m:Nat}(h:m=rs.length):Frz st rs (.sl b st 0 m) (.isl rs):=fun E hE x hx=>by
 have:=hE b 0 m x (by omega) hx
 rwa [List.drop_zero,List.take_of_length_le (by omega)]at this
theorem B1l.get{st:Nat}{rs:List (List V)}: ∀{l l2:List V},B1l st rs l l2→l2.length=l.length∧ ∀(i:Nat) c2,l2[i]? =some c2→ ∃c,l[i]? =some c∧Frz st rs c c2
 | [],[],_=>⟨rfl,fun i c h=>by simp at h⟩
 |a::r,b::s,h=>by
  obtain⟨h1,h2⟩:=B1l.get h.2
  refine⟨by simp [h1],fun i c2 hi=> ?_⟩
  cases i with
  |zero=>simp at hi;subst hi;exact⟨a,rfl,h.1⟩
  |succ i=>exact h2 i c2 (by simpa using hi)
 | [],_::_,h=>h.elim
 |_::_,[],h=>h.elim
theorem B1l.same{st:Nat}{rs:List (List V)}: ∀l:List V,B1l st rs l l
 | []=>trivial
 |a::r=>⟨.of (.refl a),B1l.same r⟩
theorem Frz.agg{st:Nat}{rs:List (List V)}{l l2:List V}(h:B1l st rs l l2):Frz st rs (.agg l) (.agg l2):=fun E hE x hx=>by
 obtain⟨h1,h2⟩:=h.get
 obtain⟨vs,rfl,hl,h3,hR⟩:=hx.agg_inv
 refine .agg _ vs (h1.trans hl) h3 fun i c v hc hv=> ?_
 obtain⟨c0,hc0,hs⟩:=h2 i c hc
 exact hs E hE v (hR i c0 v hc0 hv)
theorem Frz.tup{st:Nat}{rs:List (List V)}{l l2:List V}(h:B1l st rs l l2):Frz st rs (.tup l) (.tup l2):=fun E hE x hx=>by
 obtain⟨h1,h2⟩:=h.get
 cases hx with
 |tup _ vs hl hR=>
  refine .tup _ vs (h1.trans hl) fun i c v hc hv=> ?_
  obtain⟨c0,hc0,hs⟩:=h2 i c hc
  exact hs E hE v (hR i c0 v hc0 hv)
theorem A7R.of{st:Nat}{rs:List (List V)}{b b2:Blk}(h:f0 b b2):A7R st rs b b2:=fun E _ st' hb=>h E st' hb
theorem A7R.rows{st:Nat}{fs:List (List V)}{sz:Nat}{rs rs2:List (List V)}(hl:rs2.length≤rs.length)(hr: ∀(i:Nat) r2,rs2[i]? =some r2→ ∃r,rs[i]? =some r∧B1l st fs r r2):A7R st fs (.rows sz rs) (.rows sz rs2):=by
 rintro E hE st' ⟨h1,h2,h3,h4⟩
 refine⟨h1,Nat.le_trans hl h2,h3,fun i row hi=> ?_⟩
 obtain⟨r,hr1,hs⟩:=hr i row hi
 obtain⟨h5,h6⟩:=h4 i r hr1
 obtain⟨s1,s2⟩:=hs.get
 refine⟨s1.trans h5,fun j c2 hj=> ?_⟩
 obtain⟨c,hc,hs⟩:=s2 j c2 hj
 obtain⟨x,x1,x2,x3⟩:=h6 j c hc
 exact⟨x,x1,x2,hs _ hE _ x3⟩
def C0E(st:Nat)(rs:List (List V))(sl:List (Nat×V)):List (Nat×V)→Prop
 | []=>True
 |p::r=>Frz st rs (C8 sl p.1) p.2∧C0E st rs sl r
def B4Y(b st:Nat)(rs:List (List V))(h:A2):A2→Prop
 | []=>True
 |e2::r=>(∃x,(e2.1,e2.2.1,x)∈h∧e2.1≠b∧A7R st rs x e2.2.2)∧B4Y b st rs h r
theorem C0E.get{st:Nat}{rs:List (List V)}{sl:List (Nat×V)}: ∀{l:List (Nat×V)},C0E st rs sl l→ ∀p∈l,Frz st rs (C8 sl p.1) p.2
 | [],_,p,h=>by cases h
 |q::r,hs,p,h=>by
  rcases List.mem_cons.1 h with rfl|h
  ·exact hs.1
  ·exact C0E.get hs.2 p h
theorem B4Y.get{b st:Nat}{rs:List (List V)}{h:A2}: ∀{l:A2},B4Y b st rs h l→ ∀e2∈l,∃x,(e2.1,e2.2.1,x)∈h∧e2.1≠b∧A7R st rs x e2.2.2
 | [],_,p,h=>by cases h
 |q::r,hs,p,h=>by
  rcases List.mem_cons.1 h with rfl|h
  ·exact hs.1
  ·exact B4Y.get hs.2 p h
theorem B4Y.at{b st:Nat}{rs:List (List V)}{h r:A2}{b2 st2:Nat}{x x2:Blk}(i:Nat)(hi:h[i]? =some (b2,st2,x))(hb:b2≠b)(hs:A7R st rs x x2)(hr:B4Y b st rs h r):B4Y b st rs h ((b2,st2,x2)::r):=
 ⟨⟨_,List.mem_of_getElem? hi,hb,hs⟩,hr⟩
theorem Wk.freeze{b st sz:Nat}{rs:List (List V)}{sl sl':List (Nat×V)}{h h':A2}{n:Nat}(hm:(b,st,.rows sz rs)∈h)(hs:C0E st rs sl sl')(hh:B4Y b st rs h h'):Wk ⟨sl,h,n⟩ ⟨sl',h',n⟩:=by
 intro w O ρ hr
 obtain⟨hr1,hx1⟩:=hr.drop (h':=h.filter fun e=> !(Nat.beq e.1 b)) fun e he=>(List.mem_filter.1 he).1
 have hne: ∀e,e∈h.filter (fun e=> !(Nat.beq e.1 b))↔e∈h∧e.1≠b:=fun e=>A2.mem_del
 generalize h.filter (fun e=> !(Nat.beq e.1 b))=h1 at hr1 hx1 hne
 have hblk:=(hr.blk _ hm).mono hx1 (hr.lt _ hm) fun _=>rfl
 simp only at hblk
 obtain⟨hsz,hlen,hcell,hrows⟩:=hblk
 have hE: ∀b i m x,i+m≤rs.length→R (A4 w O ρ n h1) (.sl b st i m) x→R (A4 w O ρ n h1) (.isl ((rs.drop i).take m)) x:=by
  intro b' i m x hle hx
  have hl:((rs.drop i).take m).length=m:=by simp;omega
  cases hx with
  |sl0 _ _ _ a=>rw [List.take_zero];exact .isl0 _ _
  | sl _ _ _ _ cap hst hn hc=>
   by_cases hm0:m=0
   ·subst hm0;rw [List.take_zero];exact .isl0 _ _
   have hc0:(ρ st).cap≠0:=by have hc':i+cap≤(ρ st).cap:=hc;omega
   have hno: ¬Own ρ h1 (ρ st).blk:=by
    rintro⟨e,he,hce,hbe⟩
    obtain⟨he1,he2⟩:=(hne e).1 he
    exact hr.inj e he1 _ hm he2 hce hc0 hbe
   have hnO:=hr.notO _ hm hc0
   have hsz':(ρ st).sz=sz:=hsz
   have get: ∀{q:Nat} {row:List V},((rs.drop i).take m)[q]? =some row→rs[i+q]? =some row:=by
    intro q row hq
    rw [List.getElem?_take]at hq
    split at hq
    ·rwa [List.getElem?_drop]at hq
    ·cases hq
   have hex: ∀(q j:Nat),∃y,∀row c,((rs.drop i).take m)[q]? =some row→row[j]? =some c→w.cell? ⟨(ρ st).blk,(ρ st).off+i*(ρ st).sz+q*sz+j,none⟩=some y∧y.oneCell'=true∧R (A4 w O ρ n h1) c y:=by
    intro q j
    cases hq:((rs.drop i).take m)[q]? with
    |none=>exact⟨Go.undef,fun row c h=>by cases h⟩
    | some row=>
     cases hj:row[j]? with
     |none=>exact⟨Go.undef,fun row' c h h'=>by injection h with h;subst h;rw [hj]at h';cases h'⟩
     |some c=>
      obtain⟨y,h1,h2,h3⟩:=(hrows (i+q) row (get hq)).2 j c hj
      refine⟨y,fun row' c' e1 e2=> ?_⟩
      injection e1 with e1
      subst e1
      rw [hj]at e2
      injection e2 with e2
      subst e2
      refine⟨?_,h2,h3⟩
      rw [Nat.add_mul,←Nat.add_assoc]at h1
      rw [hsz']
      exact h1
   let f:=fun q j=>(hex q j).choose
   have hf:=fun q j=>(hex q j).choose_spec
   have hmain:=R.isl (E:=A4 w O ρ n h1) ((rs.drop i).take m) ⟨(ρ st).blk,(ρ st).off+i*(ρ st).sz,none⟩ cap sz f rfl (by rw [hl];exact hn) (fun q row hq=>(hrows _ row (get hq)).1)
    (fun q row j c hq hj=>⟨(hf q j row c hq hj).1,(hf q j row c hq hj).2.1,hno,hnO⟩) (fun q row j c hq hj=>(hf q j row c hq hj).2.2)
   rw [hl]at hmain
   exact hmain
 obtain⟨hr2,hx2⟩:=hr1.turn (h2:=h') id fun e2 he2=>by
  obtain⟨x,a,b1,c⟩:=hh.get e2 he2
  exact⟨(e2.1,e2.2.1,x),(hne _).2 ⟨a,b1⟩,rfl,rfl,c _ hE _⟩
 refine⟨ρ,hr2,hx1.trans hx2,fun a ha i=> ?_⟩
 rcases B1e (sl:=sl') i with hu|hmm
 ·simp only [hu];exact .undef _
 ·exact(hs.get _ hmm _ hE _ ((ha i).mono hx1)).mono hx2
end Go.Abs
namespace Go.Abs
end Go.Abs
namespace Go.Abs
def B3A(sl:List (Nat×V)):List Nat→List (Nat×V)
 | []=> []
 |i::l=>(i,C8 sl i)::B3A sl l
attribute [go_sem] B3A
theorem B3B{sl:List (Nat×V)}: ∀{l:List Nat} {p:Nat×V},p∈B3A sl l→p.2=C8 sl p.1
 | [],p,h=>by cases h
 |i::l,p,h=>by
  rcases List.mem_cons.1 h with rfl|h
  ·rfl
  ·exact B3B h
theorem Run.keep(l:List Nat){c:Cf}{k:List AItem}{sl:List (Nat×V)}{h:A2}{n:Nat}(hr:Run c k ⟨B3A sl l,h,n⟩):Run c k ⟨sl,h,n⟩:=
 Run.weak (s':=⟨B3A sl l,h,n⟩) ⟨fun p hp=>B3B hp,fun _ h=>h,Nat.le_refl _⟩ hr
end Go.Abs
namespace Go.Abs
theorem A3.sub{P:Program}{f:FuncId}{xs:List V}{h:A2}{n:Nat}{k k1:Res}(hc:A3 P f xs h n k1)
  (hk: ∀r h' n',k1 r h' n'→ ∃h2,(∀e∈h2,e∈h')∧k r h2 n'):A3 P f xs h n k:=by
 intro w O ρ cargs hr hR
 refine(hc w O ρ cargs hr hR).mono ?_
 rintro e w' ⟨v,r,h',n',ρ',rfl,hk1,hr',hRv,hx⟩
 obtain⟨h2,hs,hk2⟩:=hk r h' n' hk1
 obtain⟨hr2,hx2⟩:=hr'.drop hs
 exact⟨v,r,h2,n',ρ',rfl,hk2,hr2,hRv.mono hx2,hx.trans hx2⟩
theorem A3.mono{P:Program}{f:FuncId}{xs:List V}{h:A2}{n:Nat}{k k1:Res}(hc:A3 P f xs h n k1)
  (hk: ∀r h' n',k1 r h' n'→k r h' n'):A3 P f xs h n k:=hc.sub fun r h' n' h1=>⟨h',fun _ h=>h,hk r h' n' h1⟩
def G7(h:A2)(b:Nat):Prop:= ∀e∈h,e.1≠b
theorem A3.use{P:Program}{f:FuncId}{xs:List V}{h h1 rest:A2}{n:Nat}{k k1:Res}(hc:A3 P f xs h1 n k1)(hh:h=rest++h1)(hs2: ∀e∈rest,∀e'∈h1,e'.1≠e.1)
  (hk: ∀r h' n',n≤n'→k1 r h' n'→k r (rest++h') n'):A3 P f xs h n k:=by
 subst hh
 refine(A3.frame (rest:=rest) (k:=fun r h' n'=> ∃h2,(∀e∈h2,e∈h')∧k r h2 n') hc (fun e he=>List.mem_append.2 (.inr he)) (fun e he=>⟨List.mem_append.2 (.inl he),hs2 e he⟩) ?_).sub fun r h' n' h=>h
 intro r h' n' hn h1
 refine⟨rest++h',fun e he=> ?_,hk r h' n' hn h1⟩
 rcases List.mem_append.1 he with h|h
 ·exact List.mem_append.2 (.inr h)
 ·exact List.mem_append.2 (.inl h)
theorem G7.del{h:A2}{b:Nat}(ha:G7 h b):A2.del h b=h:=by
 unfold A2.del
 rw [List.filter_eq_self]
 intro e he
 have:=ha e he
 cases hb:Nat.beq e.1 b with
 |false=>rfl
 |true=>exact(this (Nat.eq_of_beq_eq_true hb)).elim
theorem G7.nil{b:Nat}:G7 [] b:=fun _ h=>by cases h
theorem G7.cons{h:A2}{e:Nat×Nat×Blk}{b:Nat}(h1:e.1≠b)(h2:G7 h b):G7 (e::h) b:=fun x hx=>by
 rcases List.mem_cons.1 hx with rfl|hx
 ·exact h1
 ·exact h2 x hx
theorem G7.append{h h':A2}{b:Nat}(h1:G7 h b)(h2:G7 h' b):G7 (h++h') b:=fun x hx=>by
 rcases List.mem_append.1 hx with hx|hx
 ·exact h1 x hx
 ·exact h2 x hx
def A5L(h1 rest:A2):Bool:=rest.all fun e=>h1.all fun e'=> !(Nat.beq e'.1 e.1)
def A0d(h:A2):List Nat→A2
 | []=> []
 |i::r=>match h[i]? with
  |some e=>e::A0d h r
  |none=>A0d h r
attribute [go_sem] A0d
theorem A1E{h:A2}: ∀{l:List Nat} {e:Nat×Nat×Blk},e∈A0d h l→e∈h
 | [],_,he=>by cases he
 | i::r,e,he=>by
  simp only [A0d]at he
  split at he
  ·rename_i x hx
   rcases List.mem_cons.1 he with rfl|he
   ·exact List.mem_of_getElem? hx
   ·exact A1E he
  ·exact A1E he
theorem A3.at(l1 l2:List Nat){P:Program}{f:FuncId}{xs:List V}{h h1:A2}{n:Nat}{k k1:Res}(hc:A3 P f xs h1 n k1)(he:A0d h l1=h1)(hs3:A5L (A0d h l1) (A0d h l2)=true)
  (hk: ∀r h' n',n≤n'→k1 r h' n'→k r (h'++A0d h l2) n'):A3 P f xs h n k:=by
 subst he
 refine A3.frame hc (fun e he=>A1E he) (fun e he=>⟨A1E he,fun e' he'=> ?_⟩) hk
 unfold A5L at hs3
 have h1:=List.all_eq_true.1 (List.all_eq_true.1 hs3 e he) e' he'
 intro h2
 rw [h2,Nat.beq_refl]at h1
 cases h1
theorem A3.out{P:Program}{f:FuncId}{xs:List V}{h:A2}{n:Nat}{k k1:Res}(hc:A3 P f xs [] n k1)(hk: ∀r h' n',n≤n'→k1 r h' n'→k r (h'++h) n'):A3 P f xs h n k:=
 A3.frame hc (by simp) (fun e he=>⟨he,by simp⟩) hk
end Go.Abs
