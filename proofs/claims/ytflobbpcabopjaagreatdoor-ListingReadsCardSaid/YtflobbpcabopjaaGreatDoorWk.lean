/-
 Weakening of abstract states; pointers given up; calls that need a part of the heap. No condition.
-/
import Derived.Test.YtflobbpcabopjaaGreatDoorSim
set_option linter.unusedSimpArgs false set_option linter.unusedVariables false namespace Go.Abs
def Wk(s s':St):Prop:= ∀w O ρ,HeapR w O ρ s.n s.h→ ∃ρ',HeapR w O ρ' s'.n s'.h∧Ext (A4 w O ρ s.n s.h) (A4 w O ρ' s'.n s'.h)∧
 ∀a:Nat→Value,(∀i,R (A4 w O ρ s.n s.h) (E0 s.sl i) (a i))→ ∀i,R (A4 w O ρ' s'.n s'.h) (E0 s'.sl i) (a i)
theorem Wk.refl(s:St):Wk s s:=fun w O ρ hr=>⟨ρ,hr,Ext.refl _,fun _ h=>h⟩
theorem Wk.trans{a b c:St}(h1:Wk a b)(h2:Wk b c):Wk a c:=by
 intro w O ρ hr
 obtain⟨ρ1,r1,x1,v1⟩:=h1 w O ρ hr
 obtain⟨ρ2,r2,x2,v2⟩:=h2 w O ρ1 r1
 exact⟨ρ2,r2,x1.trans x2,fun a h=>v2 a (v1 a h)⟩
theorem E8.wk{s s':St}(hw:E8 s s'):Wk s s':=by
 intro w O ρ hr
 obtain⟨h1,h2,h3⟩:=hw
 obtain⟨hr1,hx1⟩:=hr.drop h2
 obtain⟨hr2,hx2⟩:=hr1.up h3
 refine⟨ρ,hr2,hx1.trans hx2,fun a ha i=> ?_⟩
 rcases B4q (sl:=s'.sl) i with hu|hm
 ·rw [hu];exact .undef _
 ·have:=h1 _ hm
  simp only at this
  rw [this]
  exact((ha i).mono hx1).mono hx2
theorem OK.wk{c:Cx}{k:List AItem}{s s':St}(hw:Wk s s')(h:OK c k s'):OK c k s:=by
 intro O ρ a w k' b cs hr hs hd hk
 obtain⟨ρ',hr',hx,hv⟩:=hw w O ρ hr
 exact(h O ρ' a w k' b cs hr' ⟨hs.size,fun b0 e=>Nat.le_trans (hs.base b0 e) hx.size,hs.defers.mono hx,hv _ hs.slot⟩ (hd.mono hx.n hx.ρ) hk).step (Steps.refl _ _) hx
theorem Run.wk{c:Cf}{k:List AItem}{s s':St}(hw:Wk s s')(h:Run c k s'):Run c k s:=fun fn bs hrs=>OK.wk hw (h fn bs hrs)
theorem Run.roundsK{c:Cf}{k:List AItem}{s:St}{α:Type}{x:AC}(S:α→St)(J:α→Prop)(μ:α→Nat)(x0:α)(hw:Wk s (S x0))(h0:J x0)
  (round: ∀y,J y→(∀s z,J z→μ z<μ y→Wk s (S z)→Run c (.lp x::k) s)→Run c (.code x:: .lp x::k) (S y)):Run c (.code (.loop x)::k) s:=by
 have key: ∀m y,μ y=m→J y→Run c (.code x:: .lp x::k) (S y):=by
  intro m
  induction m using Nat.strongRecOn with
  |_ m ih=>
   intro y hm hJ
   exact round y hJ fun s z hz hlt hw=>Run.wk hw (Run.lp (ih (μ z) (hm ▸ hlt) z rfl hz))
 exact Run.loop (Run.wk hw (key _ x0 rfl h0))
theorem A0.wk{P:Program}{f:FuncId}{xs:List V}{h:A2}{n:Nat}{k k1:Res}(hc:A0 P f xs h n k1)
  (hk: ∀r h' n',k1 r h' n'→ ∃r2 h2 n2,Wk ⟨[(0,r)],h',n'⟩ ⟨[(0,r2)],h2,n2⟩∧k r2 h2 n2):A0 P f xs h n k:=by
 intro w O ρ cargs hr hR
 refine(hc w O ρ cargs hr hR).mono ?_
 exact Xa
theorem A0.pre{P:Program}{f:FuncId}{xs xs':List V}{h h':A2}{n n':Nat}{k:Res}(hw:Wk ⟨A3 0 xs,h,n⟩ ⟨A3 0 xs',h',n'⟩)(hl:xs'.length=xs.length)
  (hc:A0 P f xs' h' n' k):A0 P f xs h n k:=by
 intro w O ρ cargs hr hR
 obtain⟨ρ',hr',hx,hv⟩:=hw w O ρ hr
 refine(hc w O ρ' cargs hr' ⟨hl.trans hR.1,fun i c v hc hv'=> ?_⟩).mono ?_
 ·have:=hv (fun i=>cargs.getD i Go.undef) (fun i=>by
   simp only [A9P,Nat.zero_le,if_true,Nat.sub_zero]
   cases hi:xs[i]? with
   |none=>exact .undef _
   |some y=>
    have hlt:i<cargs.size:=by rw [←hR.1];exact(List.getElem?_eq_some_iff.1 hi).1
    have e:cargs[i]? =some cargs[i]:=by simp [hlt]
    simp only [Option.getD_some,Array.getD_eq_getD_getElem?,e]
    exact hR.2 i y _ hi e) i
  simp only [A9P,Nat.zero_le,if_true,Nat.sub_zero,hc,Option.getD_some,Array.getD_eq_getD_getElem?,hv']at this
  exact this
 ·rintro e w' ⟨v,r,h2,n2,ρ2,rfl,hk1,hr2,hRv,hx2⟩
  exact⟨v,r,h2,n2,ρ2,rfl,hk1,hr2,hRv,hx.trans hx2⟩
def P2(k:Res)(r:V)(h:A2)(n:Nat):Prop:= ∃r2 h2 n2,Wk ⟨[(0,r)],h,n⟩ ⟨[(0,r2)],h2,n2⟩∧k r2 h2 n2
@[congr] theorem D1q{k:Res}{r r':V}{h h':A2}{n:Nat}(e:r=r')(e1:h=h'):P2 k r h n=P2 k r' h' n:=by rw [e,e1]
theorem P2.is{k:Res}{r:V}{h:A2}{n:Nat}(hk:k r h n):P2 k r h n:=⟨r,h,n,.refl _,hk⟩
theorem P2.to{k:Res}{r r2:V}{h h2:A2}{n n2:Nat}(hk:k r2 h2 n2)(hw:Wk ⟨[(0,r)],h,n⟩ ⟨[(0,r2)],h2,n2⟩):P2 k r h n:=⟨r2,h2,n2,hw,hk⟩
theorem P2.mk{k:Res}{r r2:V}{h h2:A2}{n n2:Nat}(hw:Wk ⟨[(0,r)],h,n⟩ ⟨[(0,r2)],h2,n2⟩)(hk:k r2 h2 n2):P2 k r h n:=⟨r2,h2,n2,hw,hk⟩
theorem A0.enterK{P:Program}{f:FuncId}{N:Nat}{ac:AC}{rs:List RV}{xs:List V}{h:A2}{n:Nat}{Q:Res}(hc:B8 P f=some (N,ac,rs))(hl:xs.length≤N)
  (hok: ∀Q',Q'=Q→Run ⟨P,N,rs,P2 Q',none,none⟩ [.code ac] ⟨A3 0 xs,h,n⟩):A0 P f xs h n Q:=(A0.enter hc hl (hok Q rfl)).wk fun _ _ _ h=>h
theorem J4.wk{P:Program}{b st:Nat}{xs:List V}{h:A2}{n:Nat}{k k1:Res}(hc:J4 P b st xs h n k1)
  (hk: ∀r h' n',k1 r h' n'→ ∃r2 h2 n2,Wk ⟨[(0,r)],h',n'⟩ ⟨[(0,r2)],h2,n2⟩∧k r2 h2 n2):J4 P b st xs h n k:=by
 intro w O ρ cargs hr hst hR
 obtain⟨q,a,b,c⟩:=hc w O ρ cargs hr hst hR
 refine⟨q,a,b,c.mono ?_⟩
 exact Xa
theorem J4.mono{P:Program}{b st:Nat}{xs:List V}{h:A2}{n:Nat}{k k1:Res}(hc:J4 P b st xs h n k1)(hk: ∀r h' n',k1 r h' n'→k r h' n'):J4 P b st xs h n k:=
 hc.wk fun r h' n' h1=>⟨r,h',n',.refl _,hk r h' n' h1⟩
theorem J4.enterK{P:Program}{b st N:Nat}{sl:List (Nat×V)}{ps:List Nat}{x y:AC}{pend:Option Code}{xs:List V}{h:A2}{n:Nat}{Q:Res}(hg:A2.get h b st=some (.loop N sl ps (A0l P N x y) .ready pend))(hl:xs.length=ps.length)
  (hok: ∀Q',Q'=Q→Run ⟨P,N,[],P2 Q',some (b,st),none⟩ [.code x,.beg,.code y] ⟨A6E sl ps xs,h,n⟩):J4 P b st xs h n Q:=
 (J4.enter (Q:=P2 Q) hg hl fun fn=>hok Q rfl fn (some 0) ⟨(fun h=>by cases h),rfl,.inl rfl⟩).wk fun _ _ _ h=>h
theorem P2.wk{k:Res}{r r2:V}{h h2:A2}{n n2:Nat}(hw:Wk ⟨[(0,r)],h,n⟩ ⟨[(0,r2)],h2,n2⟩)(hp:P2 k r2 h2 n2):P2 k r h n:=by
 obtain⟨r3,h3,n3,hw3,hk⟩:=hp
 exact⟨r3,h3,n3,hw.trans hw3,hk⟩
theorem Wk.fresh(b sz:Nat)(sl:List (Nat×V))(h:A2)(n:Nat):Wk ⟨sl,h,n⟩ ⟨sl,A2.put h b n (.rows sz []),n+1⟩:=by
 intro w O ρ hr
 let ρ':Nat→Loc:=fun st=>if st=n then⟨0,0,sz,0⟩else ρ st
 have hn:ρ' n=⟨0,0,sz,0⟩:=by simp [ρ']
 obtain⟨a2,a3⟩:=HeapR.step (w':=w) (ρ':=ρ') (n':=n+1) (b:=b) (st:=n) (x:= .rows sz []) hr (Nat.le_succ _) (fun st hst=>by simp [ρ',Nat.ne_of_lt hst]) (Nat.lt_succ_self _) (Wd.refl _)
  (fun _ _ _=>rfl) (.inl (by rw [hn])) (fun _=>⟨by simp [hn],by simp,fun h=>by simp [hn]at h,by simp⟩)
 exact⟨ρ',a2,a3,fun a ha i=>(ha i).mono a3⟩
theorem HeapR.turn{w:World}{O:Nat→Prop}{ρ:Nat→Loc}{n:Nat}{h h2:A2}(hr:HeapR w O ρ n h)
  (g:Nat→Nat) (hg: ∀e2∈h2,∃e∈h,e2.1=g e.1∧e2.2.1=e.2.1∧(B0x (A4 w O ρ n h) e.2.1 e.2.2→B0x (A4 w O ρ n h) e.2.1 e2.2.2)):HeapR w O ρ n h2∧Ext (A4 w O ρ n h) (A4 w O ρ n h2):=by
 have hown: ∀x,Own ρ h2 x→Own ρ h x:=by
  rintro x ⟨e2,he2,hc,hb⟩
  obtain⟨e,he,_,h2,_⟩:=hg e2 he2
  exact⟨e,he,by rw [←h2];exact hc,by rw [←h2];exact hb⟩
 have hx:Ext (A4 w O ρ n h) (A4 w O ρ n h2):=⟨rfl,Nat.le_refl _,fun _ _=>rfl,Wd.refl _,fun x _ ho=>⟨rfl,fun h=>ho (hown x h)⟩⟩
 refine⟨⟨fun e2 he2=> ?_,fun e2 he2 e2' he2' hne hc hc'=> ?_,hr.out,fun e2 he2 hc=> ?_,fun e2 he2=> ?_,hr.gl.mono hx.imm⟩,hx⟩
 ·obtain⟨e,he,_,h2,_⟩:=hg e2 he2
  rw [h2];exact hr.lt e he
 ·obtain⟨e,he,h1,h2,_⟩:=hg e2 he2
  obtain⟨e',he',h1',h2',_⟩:=hg e2' he2'
  rw [h2]at hc⊢
  rw [h2']at hc'⊢
  exact hr.inj e he e' he' (fun h=>hne (by rw [h1,h1',h])) hc hc'
 ·obtain⟨e,he,h1,h2,_⟩:=hg e2 he2
  rw [h2]at hc⊢
  exact hr.notO e he hc
 ·obtain⟨e,he,h1,h2,hs⟩:=hg e2 he2
  rw [h2]
  exact(hs (hr.blk e he)).mono hx (hr.lt e he) fun _=>rfl
def K0(v v2:V):Prop:= ∀E x,R E v x→R E v2 x
def A2V:List V→List V→Prop
 | [],[]=>True
 |a::r,b::s=>K0 a b∧A2V r s
 |_,_=>False
def S6(b b2:Blk):Prop:= ∀E st,B0x E st b→B0x E st b2
theorem K0.refl(v:V):K0 v v:=fun _ _ h=>h
theorem K0.sl{b b2 st i n:Nat}:K0 (.sl b st i n) (.sl b2 st i n):=fun E x h=>by
 cases h with
 |sl _ _ _ _ cap h1 h2 h3=>exact .sl b2 st i n cap h1 h2 h3
 |sl0 _ _ _ a=>exact .sl0 b2 st i a
theorem K0.sl'{b b2 st i n n2:Nat}(h:n=n2):K0 (.sl b st i n) (.sl b2 st i n2):=h ▸ .sl
theorem K0.of_eq{v v2:V}(h:v=v2):K0 v v2:=h ▸ .refl v
theorem K0.ptr{b b2 st i n:Nat}:K0 (.ptr b st i n) (.ptr b2 st i n):=fun E x h=>by
 cases h with
 |ptr _ _ _ _ h1=>exact .ptr b2 st i n h1
theorem K0.mp{b b2 st:Nat}:K0 (.mp b st) (.mp b2 st):=fun E x h=>by
 cases h with
 |mp _ _ h1=>exact .mp b2 st h1
theorem K0.yld{b b2 st:Nat}:K0 (.yld b st) (.yld b2 st):=fun E x h=>by
 cases h with
 |yld _ _ h1=>exact .yld b2 st h1
theorem K0.nils{b st i:Nat}:K0 .nils (.sl b st i 0):=fun E x h=>by
 rw [h.nils_inv];exact .sl0 _ _ _ _
theorem K0.nilI:K0 .nils (.isl []):=fun E x h=>by
 rw [h.nils_inv];exact .isl0 _ _
theorem K0.undef(v:V):K0 v .undef:=fun E x h=> .undef _
theorem A2V.refl: ∀l:List V,A2V l l
 | []=>trivial
 |a::r=>⟨.refl a,A2V.refl r⟩
theorem A2V.get: ∀{l l2:List V},A2V l l2→l2.length=l.length∧ ∀(i:Nat) c2,l2[i]? =some c2→ ∃c,l[i]? =some c∧K0 c c2
 | [],[],_=>⟨rfl,fun i c h=>by simp at h⟩
 |a::r,b::s,h=>by
  obtain⟨h1,h2⟩:=A2V.get h.2
  exact Ym
 | [],_::_,h=>h.elim
 |_::_,[],h=>h.elim
theorem K0.agg{l l2:List V}(h:A2V l l2):K0 (.agg l) (.agg l2):=fun E x hx=>by
 obtain⟨h1,h2⟩:=h.get
 obtain⟨vs,rfl,hl,h3,hR⟩:=hx.agg_inv
 refine .agg _ vs (h1.trans hl) h3 fun i c v hc hv=> ?_
 obtain⟨c0,hc0,hs⟩:=h2 i c hc
 exact hs E v (hR i c0 v hc0 hv)
theorem K0.tup{l l2:List V}(h:A2V l l2):K0 (.tup l) (.tup l2):=fun E x hx=>by
 obtain⟨h1,h2⟩:=h.get
 cases hx with
 |tup _ vs hl hR=>
  refine .tup _ vs (h1.trans hl) fun i c v hc hv=> ?_
  obtain⟨c0,hc0,hs⟩:=h2 i c hc
  exact hs E v (hR i c0 v hc0 hv)
theorem S6.refl(b:Blk):S6 b b:=fun _ _ h=>h
theorem S6.of_eq{b b2:Blk}(h:b=b2):S6 b b2:=h ▸ .refl b
theorem S6.rows{sz:Nat}{rs rs2:List (List V)}(hl:rs2.length≤rs.length)(hr: ∀(i:Nat) r2,rs2[i]? =some r2→ ∃r,rs[i]? =some r∧A2V r r2):S6 (.rows sz rs) (.rows sz rs2):=by
 rintro E st ⟨h1,h2,h3,h4⟩
 refine⟨h1,Nat.le_trans hl h2,h3,fun i row hi=> ?_⟩
 obtain⟨r,hr1,hs⟩:=hr i row hi
 obtain⟨h5,h6⟩:=h4 i r hr1
 obtain⟨s1,s2⟩:=hs.get
 refine⟨s1.trans h5,fun j c2 hj=> ?_⟩
 obtain⟨c,hc,hs⟩:=s2 j c2 hj
 obtain⟨x,x1,x2,x3⟩:=h6 j c hc
 exact⟨x,x1,x2,hs _ _ x3⟩
theorem S6.row{sz:Nat}{r r2:List V}(hr:A2V r r2):S6 (.rows sz [r]) (.rows sz [r2]):=
 .rows (Nat.le_refl _) fun i r' hi=>by
  cases i with
  |zero=>simp at hi;subst hi;exact⟨r,rfl,hr⟩
  |succ i=>simp at hi
theorem S6.take{sz:Nat}{rs:List (List V)}(k:Nat):S6 (.rows sz rs) (.rows sz (rs.take k)):=
 .rows zr fun i r' hi=>by
  rw [List.getElem?_take]at hi
  split at hi
  ·exact⟨r',hi,.refl r'⟩
  ·cases hi
def B1n(sl:List (Nat×V)):List (Nat×V)→Prop
 | []=>True
 |p::r=>K0 (E0 sl p.1) p.2∧B1n sl r
def Q6(g:Nat→Nat)(h:A2):A2→Prop
 | []=>True
 |e2::r=>(∃e∈h,e2.1=g e.1∧e2.2.1=e.2.1∧S6 e.2.2 e2.2.2)∧Q6 g h r
theorem B1n.get{sl:List (Nat×V)}: ∀{l:List (Nat×V)},B1n sl l→ ∀p∈l,K0 (E0 sl p.1) p.2
 | [],_,p,h=>by cases h
 |q::r,hs,p,h=>by
  rcases List.mem_cons.1 h with rfl|h
  ·exact hs.1
  ·exact B1n.get hs.2 p h
theorem Q6.get{g:Nat→Nat}{h:A2}: ∀{l:A2},Q6 g h l→ ∀e2∈l,∃e∈h,e2.1=g e.1∧e2.2.1=e.2.1∧S6 e.2.2 e2.2.2
 | [],_,p,h=>by cases h
 |q::r,hs,p,h=>by
  rcases List.mem_cons.1 h with rfl|h
  ·exact hs.1
  ·exact Q6.get hs.2 p h
theorem Q6.append{g:Nat→Nat}{h:A2}: ∀{l l2:A2},Q6 g h l→Q6 g h l2→Q6 g h (l++l2)
 | [],_,_,h=>h
 |_::_,_,h1,h2=>⟨h1.1,Q6.append h1.2 h2⟩
theorem Q6.of{g:Nat→Nat}{h:A2}: ∀{l:A2},(∀e2∈l,∃e∈h,e2.1=g e.1∧e2.2.1=e.2.1∧S6 e.2.2 e2.2.2)→Q6 g h l
 | [],_=>trivial
 |q::r,h=>⟨h q List.mem_cons_self,Q6.of fun e he=>h e (List.mem_cons_of_mem _ he)⟩
theorem Q6.at{g:Nat→Nat}{h r:A2}{b b2 st:Nat}{x x2:Blk}(i:Nat)(hi:h[i]? =some (b,st,x))(hb:b2=g b)(hs:S6 x x2)(hr:Q6 g h r):Q6 g h ((b2,st,x2)::r):=
 ⟨⟨_,List.mem_of_getElem? hi,hb,rfl,hs⟩,hr⟩
theorem Wk.sub{r:V}{h h2:A2}{n:Nat}(hs:B1s h h2):Wk ⟨[(0,r)],h,n⟩ ⟨[(0,r)],h2,n⟩:=E8.wk ⟨fun p hp=>by
 rw [List.mem_singleton.1 hp];rfl,C0.1 hs,Nat.le_refl _⟩
theorem Wk.turn(g:Nat→Nat){sl sl':List (Nat×V)}{h h':A2}{n:Nat}(hs:B1n sl sl')(hh:Q6 g h h'):Wk ⟨sl,h,n⟩ ⟨sl',h',n⟩:=by
 intro w O ρ hr
 obtain⟨hr',hx⟩:=hr.turn g fun e2 he2=>by
  obtain⟨e,he,a,b,c⟩:=hh.get e2 he2
  exact⟨e,he,a,b,c _ _⟩
 refine⟨ρ,hr',hx,fun a ha i=> ?_⟩
 rcases B4q (sl:=sl') i with hu|hm
 ·simp only [hu];exact .undef _
 ·exact(hs.get _ hm _ _ (ha i)).mono hx
def Frz(st:Nat)(rs:List (List V))(v v2:V):Prop:=
 ∀E,(∀b i m x,i+m≤rs.length→R E (.sl b st i m) x→R E (.isl ((rs.drop i).take m)) x)→ ∀x,R E v x→R E v2 x
def B3V(st:Nat)(rs:List (List V)):List V→List V→Prop
 | [],[]=>True
 |a::r,b::s=>Frz st rs a b∧B3V st rs r s
 |_,_=>False
def B8Z(st:Nat)(rs:List (List V))(b b2:Blk):Prop:=
 ∀E,(∀b i m x,i+m≤rs.length→R E (.sl b st i m) x→R E (.isl ((rs.drop i).take m)) x)→ ∀st',B0x E st' b→B0x E st' b2
theorem Frz.of{st:Nat}{rs:List (List V)}{v v2:V}(h:K0 v v2):Frz st rs v v2:=fun E _ x hx=>h E x hx
theorem Frz.sl{st:Nat}{rs:List (List V)}{b i m:Nat}(h:i+m≤rs.length):Frz st rs (.sl b st i m) (.isl ((rs.drop i).take m)):=fun E hE x hx=>hE b i m x h hx
theorem Frz.all{st:Nat}{rs:List (List V)}{b m:Nat}(h:m=rs.length):Frz st rs (.sl b st 0 m) (.isl rs):=fun E hE x hx=>by
 have:=hE b 0 m x zd hx
 rwa [List.drop_zero,List.take_of_length_le zd]at this
theorem B3V.get{st:Nat}{rs:List (List V)}: ∀{l l2:List V},B3V st rs l l2→l2.length=l.length∧ ∀(i:Nat) c2,l2[i]? =some c2→ ∃c,l[i]? =some c∧Frz st rs c c2
 | [],[],_=>⟨rfl,fun i c h=>by simp at h⟩
 |a::r,b::s,h=>by
  obtain⟨h1,h2⟩:=B3V.get h.2
  exact Ym
 | [],_::_,h=>h.elim
 |_::_,[],h=>h.elim
theorem B3V.same{st:Nat}{rs:List (List V)}: ∀l:List V,B3V st rs l l
 | []=>trivial
 |a::r=>⟨.of (.refl a),B3V.same r⟩
theorem Frz.agg{st:Nat}{rs:List (List V)}{l l2:List V}(h:B3V st rs l l2):Frz st rs (.agg l) (.agg l2):=fun E hE x hx=>by
 obtain⟨h1,h2⟩:=h.get
 obtain⟨vs,rfl,hl,h3,hR⟩:=hx.agg_inv
 refine .agg _ vs (h1.trans hl) h3 fun i c v hc hv=> ?_
 obtain⟨c0,hc0,hs⟩:=h2 i c hc
 exact hs E hE v (hR i c0 v hc0 hv)
theorem Frz.tup{st:Nat}{rs:List (List V)}{l l2:List V}(h:B3V st rs l l2):Frz st rs (.tup l) (.tup l2):=fun E hE x hx=>by
 obtain⟨h1,h2⟩:=h.get
 cases hx with
 |tup _ vs hl hR=>
  refine .tup _ vs (h1.trans hl) fun i c v hc hv=> ?_
  obtain⟨c0,hc0,hs⟩:=h2 i c hc
  exact hs E hE v (hR i c0 v hc0 hv)
theorem B8Z.of{st:Nat}{rs:List (List V)}{b b2:Blk}(h:S6 b b2):B8Z st rs b b2:=fun E _ st' hb=>h E st' hb
theorem B8Z.rows{st:Nat}{fs:List (List V)}{sz:Nat}{rs rs2:List (List V)}(hl:rs2.length≤rs.length)(hr: ∀(i:Nat) r2,rs2[i]? =some r2→ ∃r,rs[i]? =some r∧B3V st fs r r2):B8Z st fs (.rows sz rs) (.rows sz rs2):=by
 rintro E hE st' ⟨h1,h2,h3,h4⟩
 refine⟨h1,Nat.le_trans hl h2,h3,fun i row hi=> ?_⟩
 obtain⟨r,hr1,hs⟩:=hr i row hi
 obtain⟨h5,h6⟩:=h4 i r hr1
 obtain⟨s1,s2⟩:=hs.get
 refine⟨s1.trans h5,fun j c2 hj=> ?_⟩
 obtain⟨c,hc,hs⟩:=s2 j c2 hj
 obtain⟨x,x1,x2,x3⟩:=h6 j c hc
 exact⟨x,x1,x2,hs _ hE _ x3⟩
def C1d(st:Nat)(rs:List (List V))(sl:List (Nat×V)):List (Nat×V)→Prop
 | []=>True
 |p::r=>Frz st rs (E0 sl p.1) p.2∧C1d st rs sl r
def B7Q(b st:Nat)(rs:List (List V))(h:A2):A2→Prop
 | []=>True
 |e2::r=>(∃x,(e2.1,e2.2.1,x)∈h∧e2.1≠b∧B8Z st rs x e2.2.2)∧B7Q b st rs h r
theorem C1d.get{st:Nat}{rs:List (List V)}{sl:List (Nat×V)}: ∀{l:List (Nat×V)},C1d st rs sl l→ ∀p∈l,Frz st rs (E0 sl p.1) p.2
 | [],_,p,h=>by cases h
 |q::r,hs,p,h=>by
  rcases List.mem_cons.1 h with rfl|h
  ·exact hs.1
  ·exact C1d.get hs.2 p h
theorem B7Q.get{b st:Nat}{rs:List (List V)}{h:A2}: ∀{l:A2},B7Q b st rs h l→ ∀e2∈l,∃x,(e2.1,e2.2.1,x)∈h∧e2.1≠b∧B8Z st rs x e2.2.2
 | [],_,p,h=>by cases h
 |q::r,hs,p,h=>by
  rcases List.mem_cons.1 h with rfl|h
  ·exact hs.1
  ·exact B7Q.get hs.2 p h
theorem B7Q.at{b st:Nat}{rs:List (List V)}{h r:A2}{b2 st2:Nat}{x x2:Blk}(i:Nat)(hi:h[i]? =some (b2,st2,x))(hb:b2≠b)(hs:B8Z st rs x x2)(hr:B7Q b st rs h r):B7Q b st rs h ((b2,st2,x2)::r):=
 ⟨⟨_,List.mem_of_getElem? hi,hb,hs⟩,hr⟩
theorem Wk.freeze{b st sz:Nat}{rs:List (List V)}{sl sl':List (Nat×V)}{h h':A2}{n:Nat}(hm:(b,st,.rows sz rs)∈h)(hs:C1d st rs sl sl')(hh:B7Q b st rs h h'):Wk ⟨sl,h,n⟩ ⟨sl',h',n⟩:=by
 intro w O ρ hr
 obtain⟨hr1,hx1⟩:=hr.drop (h':=h.filter fun e=> !(Nat.beq e.1 b)) fun e he=>(List.mem_filter.1 he).1
 have hne: ∀e,e∈h.filter (fun e=> !(Nat.beq e.1 b))↔e∈h∧e.1≠b:=fun e=>A2.mem_del
 generalize h.filter (fun e=> !(Nat.beq e.1 b))=h1 at hr1 hx1 hne
 have hblk:=(hr.blk _ hm).mono hx1 (hr.lt _ hm) fun _=>rfl
 simp only at hblk
 obtain⟨hsz,hlen,hcell,hrows⟩:=hblk
 have hE: ∀b i m x,i+m≤rs.length→R (A4 w O ρ n h1) (.sl b st i m) x→R (A4 w O ρ n h1) (.isl ((rs.drop i).take m)) x:=by
  intro b' i m x hle hx
  have hl:((rs.drop i).take m).length=m:=by simp;omega
  cases hx with
  |sl0 _ _ _ a=>rw [List.take_zero];exact .isl0 _ _
  | sl _ _ _ _ cap hst hn hc=>
   by_cases hm0:m=0
   ·subst hm0;rw [List.take_zero];exact .isl0 _ _
   have hc0:(ρ st).cap≠0:=by have hc':i+cap≤(ρ st).cap:=hc;omega
   have hno: ¬Own ρ h1 (ρ st).blk:=by
    rintro⟨e,he,hce,hbe⟩
    obtain⟨he1,he2⟩:=(hne e).1 he
    exact hr.inj e he1 _ hm he2 hce hc0 hbe
   have hnO:=hr.notO _ hm hc0
   have hsz':(ρ st).sz=sz:=hsz
   have get: ∀{q:Nat} {row:List V},((rs.drop i).take m)[q]? =some row→rs[i+q]? =some row:=by
    intro q row hq
    rw [List.getElem?_take]at hq
    exact KL
   have hex: ∀(q j:Nat),∃y,∀row c,((rs.drop i).take m)[q]? =some row→row[j]? =some c→w.cell? ⟨(ρ st).blk,(ρ st).off+i*(ρ st).sz+q*sz+j,none⟩=some y∧y.oneCell'=true∧R (A4 w O ρ n h1) c y:=by
    intro q j
    cases hq:((rs.drop i).take m)[q]? with
    |none=>exact⟨Go.undef,fun row c h=>by cases h⟩
    | some row=>
     exact JD
   let f:=fun q j=>(hex q j).choose
   have hf:=fun q j=>(hex q j).choose_spec
   have hmain:=R.isl (E:=A4 w O ρ n h1) ((rs.drop i).take m) ⟨(ρ st).blk,(ρ st).off+i*(ρ st).sz,none⟩ cap sz f rfl (by rw [hl];exact hn) (fun q row hq=>(hrows _ row (get hq)).1)
    (fun q row j c hq hj=>⟨(hf q j row c hq hj).1,(hf q j row c hq hj).2.1,hno,hnO⟩) (fun q row j c hq hj=>(hf q j row c hq hj).2.2)
   rw [hl]at hmain
   exact hmain
 obtain⟨hr2,hx2⟩:=hr1.turn (h2:=h') id fun e2 he2=>by
  obtain⟨x,a,b1,c⟩:=hh.get e2 he2
  exact⟨(e2.1,e2.2.1,x),(hne _).2 ⟨a,b1⟩,rfl,rfl,c _ hE _⟩
 refine⟨ρ,hr2,hx1.trans hx2,fun a ha i=> ?_⟩
 rcases B4q (sl:=sl') i with hu|hmm
 ·simp only [hu];exact .undef _
 ·exact(hs.get _ hmm _ hE _ ((ha i).mono hx1)).mono hx2
end Go.Abs
namespace Go.Abs
end Go.Abs
namespace Go.Abs
def B7f(sl:List (Nat×V)):List Nat→List (Nat×V)
 | []=> []
 |i::l=>(i,E0 sl i)::B7f sl l
attribute [go_sem] B7f
theorem B7g{sl:List (Nat×V)}: ∀{l:List Nat} {p:Nat×V},p∈B7f sl l→p.2=E0 sl p.1
 | [],p,h=>by cases h
 |i::l,p,h=>by
  rcases List.mem_cons.1 h with rfl|h
  ·rfl
  ·exact B7g h
theorem Run.keep(l:List Nat){c:Cf}{k:List AItem}{sl:List (Nat×V)}{h:A2}{n:Nat}(hr:Run c k ⟨B7f sl l,h,n⟩):Run c k ⟨sl,h,n⟩:=
 Run.weak (s':=⟨B7f sl l,h,n⟩) ⟨fun p hp=>B7g hp,fun _ h=>h,Nat.le_refl _⟩ hr
end Go.Abs
namespace Go.Abs
theorem A0.sub{P:Program}{f:FuncId}{xs:List V}{h:A2}{n:Nat}{k k1:Res}(hc:A0 P f xs h n k1)
  (hk: ∀r h' n',k1 r h' n'→ ∃h2,(∀e∈h2,e∈h')∧k r h2 n'):A0 P f xs h n k:=by
 intro w O ρ cargs hr hR
 refine(hc w O ρ cargs hr hR).mono ?_
 rintro e w' ⟨v,r,h',n',ρ',rfl,hk1,hr',hRv,hx⟩
 obtain⟨h2,hs,hk2⟩:=hk r h' n' hk1
 obtain⟨hr2,hx2⟩:=hr'.drop hs
 exact⟨v,r,h2,n',ρ',rfl,hk2,hr2,hRv.mono hx2,hx.trans hx2⟩
theorem A0.mono{P:Program}{f:FuncId}{xs:List V}{h:A2}{n:Nat}{k k1:Res}(hc:A0 P f xs h n k1)
  (hk: ∀r h' n',k1 r h' n'→k r h' n'):A0 P f xs h n k:=hc.sub fun r h' n' h1=>⟨h',fun _ h=>h,hk r h' n' h1⟩
def B4(h:A2)(b:Nat):Prop:= ∀e∈h,e.1≠b
theorem A0.use{P:Program}{f:FuncId}{xs:List V}{h h1 rest:A2}{n:Nat}{k k1:Res}(hc:A0 P f xs h1 n k1)(hh:h=rest++h1)(hs2: ∀e∈rest,∀e'∈h1,e'.1≠e.1)
  (hk: ∀r h' n',n≤n'→k1 r h' n'→k r (rest++h') n'):A0 P f xs h n k:=by
 subst hh
 refine(A0.frame (rest:=rest) (k:=fun r h' n'=> ∃h2,(∀e∈h2,e∈h')∧k r h2 n') hc (fun e he=>List.mem_append.2 (.inr he)) (fun e he=>⟨List.mem_append.2 (.inl he),hs2 e he⟩) ?_).sub fun r h' n' h=>h
 exact XP
theorem B4.del{h:A2}{b:Nat}(ha:B4 h b):A2.del h b=h:=by
 unfold A2.del
 rw [List.filter_eq_self]
 intro e he
 have:=ha e he
 cases hb:Nat.beq e.1 b with
 |false=>rfl
 |true=>exact(this (Nat.eq_of_beq_eq_true hb)).elim
theorem B4.nil{b:Nat}:B4 [] b:=fun _ h=>by cases h
theorem B4.cons{h:A2}{e:Nat×Nat×Blk}{b:Nat}(h1:e.1≠b)(h2:B4 h b):B4 (e::h) b:=fun x hx=>by
 rcases List.mem_cons.1 hx with rfl|hx
 ·exact h1
 ·exact h2 x hx
theorem B4.append{h h':A2}{b:Nat}(h1:B4 h b)(h2:B4 h' b):B4 (h++h') b:=fun x hx=>by
 rcases List.mem_append.1 hx with hx|hx
 ·exact h1 x hx
 ·exact h2 x hx
def B0B(h1 rest:A2):Bool:=rest.all fun e=>h1.all fun e'=> !(Nat.beq e'.1 e.1)
def A5F(h:A2):List Nat→A2
 | []=> []
 |i::r=>match h[i]? with
  |some e=>e::A5F h r
  |none=>A5F h r
attribute [go_sem] A5F
theorem A9G{h:A2}: ∀{l:List Nat} {e:Nat×Nat×Blk},e∈A5F h l→e∈h
 | [],_,he=>by cases he
 | i::r,e,he=>by
  simp only [A5F]at he
  split at he
  ·rename_i x hx
   rcases List.mem_cons.1 he with rfl|he
   ·exact List.mem_of_getElem? hx
   ·exact A9G he
  ·exact A9G he
theorem A0.at(l1 l2:List Nat){P:Program}{f:FuncId}{xs:List V}{h h1:A2}{n:Nat}{k k1:Res}(hc:A0 P f xs h1 n k1)(he:A5F h l1=h1)(hs3:B0B (A5F h l1) (A5F h l2)=true)
  (hk: ∀r h' n',n≤n'→k1 r h' n'→k r (h'++A5F h l2) n'):A0 P f xs h n k:=by
 subst he
 refine A0.frame hc (fun e he=>A9G he) (fun e he=>⟨A9G he,fun e' he'=> ?_⟩) hk
 unfold B0B at hs3
 have h1:=List.all_eq_true.1 (List.all_eq_true.1 hs3 e he) e' he'
 intro h2
 rw [h2,Nat.beq_refl]at h1
 cases h1
theorem A0.out{P:Program}{f:FuncId}{xs:List V}{h:A2}{n:Nat}{k k1:Res}(hc:A0 P f xs [] n k1)(hk: ∀r h' n',n≤n'→k1 r h' n'→k r (h'++h) n'):A0 P f xs h n k:=
 A0.frame hc zg (fun e he=>⟨he,by simp⟩) hk
end Go.Abs
