/-
 Lent blocks, families of blocks, maps. No condition.
-/
import Derived.Test.YtnihmhbcjpcobaaGreatDoorWk
import Derived.Sort.Grow
set_option linter.unusedVariables false
set_option linter.unusedSimpArgs false
set_option maxRecDepth 100000
set_option maxHeartbeats 0
namespace Go.Abs
theorem R.flatTo{E E':Env}(hn:E.n≤E'.n)(hρ: ∀st,st<E.n→E'.ρ st=E.ρ st){v:V}{x:Value}(h:R E v x)(hf:A2q v=true):R E' v x:=by
 induction h with
 |undef v=>exact .undef v
 |bool b=>exact .bool b
 |int k n=>exact .int k n
 |str s=>exact .str s
 |agg cs vs hl h1 _ ih=>rw [A2q]at hf;exact .agg cs vs hl h1 fun i c v hc hv=>ih i c v hc hv (j5 hf hc)
 |tup cs vs hl _ ih=>rw [A2q]at hf;exact .tup cs vs hl fun i c v hc hv=>ih i c v hc hv (j5 hf hc)
 |nilp=>exact .nilp
 |ptr b st i j h=>rw [←hρ st h];exact .ptr b st i j (Nat.lt_of_lt_of_le h hn)
 |nils=>exact .nils
 |sl b st i n cap h hn' hc=>
  rw [←hρ st h]at hc⊢
  exact .sl b st i n cap (Nat.lt_of_lt_of_le h hn) hn' hc
 |sl0 b st i a=>exact .sl0 b st i a
 |isl es p cap sz f hp hcap hrow hcell _ ih=>
  rw [A2q]at hf
  have:es= []:=by simpa using hf
  subst this
  exact .isl0 _ _
 |isl0 a cap=>exact .isl0 a cap
 |iptr es i0 j0 p sz f=>rw [A2q]at hf;cases hf
 |nilm=>exact .nilm
 |mp b st h=>rw [←hρ st h];exact .mp b st (Nat.lt_of_lt_of_le h hn)
 |yld b st h=>rw [←hρ st h];exact .yld b st (Nat.lt_of_lt_of_le h hn)
 |fn f cs vs hl _ ih=>rw [A2q]at hf;exact .fn f cs vs hl fun i c v hc hv=>ih i c v hc hv (j5 hf hc)
 |cst v=>exact .cst v
 |err t v=>exact .err t v
 |anyi k n=>exact .anyi k n
def C5t:Blk→Prop
 | .rows _ rs=> ∀r∈rs,flatL r=true
 |_=>False
theorem A4u.flatTo{E E':Env}(hw:E'.w=E.w)(hn:E.n=E'.n)(hρ:E'.ρ=E.ρ){st:Nat}{b:Blk}(h:A4u E st b)(hf:C5t b):A4u E' st b:=by
 cases b with
 |rows sz rs=>
  obtain⟨h1,h2,h3,h4⟩:=h
  refine⟨by rw [hρ];exact h1,by rw [hρ];exact h2,by rw [hρ,hw];exact h3,fun i row hi=> ?_⟩
  obtain⟨h5,h6⟩:=h4 i row hi
  refine⟨h5,fun j c hj=> ?_⟩
  obtain⟨x,x1,x2,x3⟩:=h6 j c hj
  refine⟨x,by rw [hw,hρ];exact x1,x2,x3.flatTo (by omega) (fun st _=>by rw [hρ]) (j5 (hf row (List.mem_of_getElem? hi)) hj)⟩
 |map es=>exact hf.elim
 |loop N sl ps p s pend=>exact hf.elim
 |mapb=>exact hf.elim
 |iter=>exact hf.elim
 |raw=>exact hf.elim
theorem A2.lend{P:Program}{f:FuncId}{as as':List V}{h:A0}{n:Nat}{k k1:Res}(hc:A2 P f as [] n k1)(d:Nat)(has:as'.map (frz d h)=as)
  (hk: ∀r h' n',n≤n'→k1 r h' n'→A2q r=true∧(∀e∈h',C5t e.2.2)∧k r (h'++h) n'):A2 P f as' h n k:=by
 intro w O ρ cargs hr hR
 have hno: ∀x,¬Own ρ [] x:=fun x ⟨e,he,_⟩=>by cases he
 have hi:Imm (A4z w O) (A5 w O ρ n []):=⟨Nat.zero_le _,fun st hs=>absurd hs (Nat.not_lt_zero _),Nat.le_refl _,fun x _ ho hO=>⟨rfl,hno x,hO⟩⟩
 have hr1:HeapR w O ρ n []:=⟨fun e he=>(List.not_mem_nil he).elim,fun e he=>(List.not_mem_nil he).elim,hr.out,fun e he=>(List.not_mem_nil he).elim,fun e he=>(List.not_mem_nil he).elim,
  hr.gl.to (Nat.le_refl _) fun x _ h1 h2=>⟨rfl,hno x,h2⟩⟩
 refine(hc w O ρ cargs hr1 ?_).mono ?_
 ·refine⟨by rw [←has,List.length_map];exact hR.1,fun i c v hc hv=> ?_⟩
  rw [←has,List.getElem?_map,Option.map_eq_some_iff]at hc
  obtain⟨c0,hc0,rfl⟩:=hc
  exact(R.frz hr d (hR.2 i c0 v hc0 hv)).monoI hi
 rintro e w' ⟨v,r,h',n',ρ',rfl,hk1,hr',hRv,hx⟩
 obtain⟨f1,f2,hk2⟩:=hk r h' n' hx.n hk1
 have hlt: ∀e∈h,e.2.1<n:=hr.lt
 have hρ: ∀e∈h,ρ' e.2.1=ρ e.2.1:=fun e he=>hx.ρ _ (hlt e he)
 have hreal: ∀x,Own ρ h x→x<w.heap.size:=fun x h=>hr.real h
 have hown: ∀x,Own ρ' (h'++h) x→Own ρ' h' x∨Own ρ h x:=by
  rintro x ⟨e,he,hc,hb⟩
  rcases List.mem_append.1 he with he|he
  ·exact .inl ⟨e,he,hc,hb⟩
  ·rw [hρ e he]at hc hb
   exact .inr ⟨e,he,hc,hb⟩
 have hxall:Ext (A5 w O ρ n h) (A5 w' O ρ' n' (h'++h)):=by
  refine⟨rfl,hx.n,hx.ρ,hx.wd,fun x hx' ho=> ?_⟩
  refine⟨(hx.blk x hx' (hno x)).1,fun h=> ?_⟩
  rcases hown x h with h|h
  ·exact(hx.blk x hx' (hno x)).2 h
  ·exact ho h
 refine⟨v,r,h'++h,n',ρ',rfl,hk2,⟨?_,?_,fun x hx'=>Nat.lt_of_lt_of_le (hr.out x hx') hx.size,?_,?_,hr.gl.mono hxall.imm⟩,R.flatTo (E:=A5 w' O ρ' n' h') (E':=A5 w' O ρ' n' (h'++h)) (Nat.le_refl _) (fun _ _=>rfl) hRv f1,hxall⟩
 ·intro e he
  rcases List.mem_append.1 he with he|he
  ·exact hr'.lt e he
  ·exact Nat.lt_of_lt_of_le (hlt e he) hx.n
 ·intro e he e' he' hne hc hc'
  rcases List.mem_append.1 he with he|he<;>rcases List.mem_append.1 he' with he'|he'
  ·exact hr'.inj e he e' he' hne hc hc'
  ·rw [hρ e' he']at hc'⊢
   intro heq
   have ho:Own ρ h (ρ e'.2.1).blk:=⟨e',he',hc',rfl⟩
   exact(hx.blk _ (hreal _ ho) (hno _)).2 ⟨e,he,hc,heq⟩
  ·rw [hρ e he]at hc⊢
   intro heq
   have ho:Own ρ h (ρ e.2.1).blk:=⟨e,he,hc,rfl⟩
   exact(hx.blk _ (hreal _ ho) (hno _)).2 ⟨e',he',hc',heq.symm⟩
  ·rw [hρ e he]at hc⊢
   rw [hρ e' he']at hc'⊢
   exact hr.inj e he e' he' hne hc hc'
 ·intro e he hc hO
  rcases List.mem_append.1 he with he|he
  ·exact hr'.notO e he hc hO
  ·rw [hρ e he]at hc hO
   exact hr.notO e he hc hO
 ·intro e he
  rcases List.mem_append.1 he with he|he
  ·exact A4u.flatTo (E:=A5 w' O ρ' n' h') (E':=A5 w' O ρ' n' (h'++h)) rfl rfl rfl (hr'.blk e he) (f2 e he)
  ·refine(hr.blk e he).monoI hxall.imm (hlt e he) fun hc=> ?_
   have ho:Own ρ h (ρ e.2.1).blk:=⟨e,he,hc,rfl⟩
   exact(hx.blk _ (hreal _ ho) (hno _)).1
theorem A8U.map{st:Nat}{fs:List (List V)}{es es2:List (V×V)}(hl:es2.length=es.length)(hr: ∀(i:Nat) p2,es2[i]? =some p2→ ∃p,es[i]? =some p∧Frz st fs p.1 p2.1∧Frz st fs p.2 p2.2):A8U st fs (.map es) (.map es2):=by
 rintro E hE st' ⟨h1,mes,clock,h2,h3,h4,h5⟩
 refine⟨h1,mes,clock,h2,h3.trans hl.symm,fun i p2 m hi hm=> ?_,h5⟩
 obtain⟨p,hp,g1,g2⟩:=hr i p2 hi
 obtain⟨k1,k2,k3⟩:=h4 i p m hp hm
 exact⟨g1 _ hE _ k1,g2 _ hE _ k2,k3⟩
theorem A8U.mapF{st:Nat}{fs:List (List V)}{es:List (V×V)}(g:V×V→V×V)(hr: ∀p∈es,Frz st fs p.1 (g p).1∧Frz st fs p.2 (g p).2):A8U st fs (.map es) (.map (es.map g)):=by
 refine A8U.map (by simp) fun i p2 hi=> ?_
 rw [List.getElem?_map,Option.map_eq_some_iff]at hi
 obtain⟨p,hp,rfl⟩:=hi
 exact⟨p,hp,hr p (List.mem_of_getElem? hp)⟩
def A7k(F:Nat→List (List V))(S:Nat→Nat)(i:Nat):Nat×Nat×Blk:=(1000000000000+i,S i,.rows 1 (F i))
theorem B2n{k i:Nat}(h:k<1000000000000):Nat.beq k (1000000000000+i)=false:=by
 cases hb:Nat.beq k (1000000000000+i)with
 |false=>rfl
 |true=>have:=Nat.eq_of_beq_eq_true hb;omega
theorem B6l{k i:Nat}(h:k<1000000000000):Nat.beq (1000000000000+i) k=false:=by
 cases hb:Nat.beq (1000000000000+i) k with
 |false=>rfl
 |true=>have:=Nat.eq_of_beq_eq_true hb;omega
theorem B6.of{s s':St}(h1:A4s s.sl s'.sl)(h2: ∀e∈s'.h,e∈s.h)(h3:s.n≤s'.n):B6 s s':=⟨F9.1 h1,h2,h3⟩
theorem B4Z.of{st:Nat}{rs:List (List V)}{sl:List (Nat×V)}: ∀{l:List (Nat×V)},(∀p∈l,p.2=C3 sl p.1)→B4Z st rs sl l
 | [],_=>trivial
 |p::r,h=>⟨Frz.of (F4.of_eq (h p List.mem_cons_self).symm),B4Z.of fun q hq=>h q (List.mem_cons_of_mem _ hq)⟩
theorem A7c.of{b st:Nat}{rs:List (List V)}{h:A0}: ∀{l:A0},(∀e∈l,e∈h∧e.1≠b)→A7c b st rs h l
 | [],_=>trivial
 |e::r,hm=>⟨⟨e.2.2,(hm e List.mem_cons_self).1,(hm e List.mem_cons_self).2,A8U.of (.refl _)⟩,A7c.of fun x hx=>hm x (List.mem_cons_of_mem _ hx)⟩
theorem A9M.of{sl:List (Nat×V)}: ∀{l:List (Nat×V)},(∀p∈l,p.2=C3 sl p.1)→A9M sl l
 | [],_=>trivial
 |p::r,h=>⟨F4.of_eq (h p List.mem_cons_self).symm,A9M.of fun q hq=>h q (List.mem_cons_of_mem _ hq)⟩
theorem Wk.cell{b st b2 st2 a k n:Nat}{R T:List (List V)}{X:A0}{sl sl':List (Nat×V)}(hS:A4s sl sl')(hb:b2≠b)(hX: ∀e∈X,e.1≠b)(hk:k=R.length):
  Wk ⟨sl,(b,st,.rows 1 R)::(b2,st2,.rows 1 (T.set a [.sl b st 0 k]))::X,n⟩ ⟨sl',(b2,st2,.rows 1 (T.set a [.isl R]))::X,n⟩:=by
 refine Wk.freeze (b:=b) (st:=st) (sz:=1) (rs:=R) List.mem_cons_self (B4Z.of (F9.1 hS)) (.at 1 rfl hb (A8U.rows (by simp) fun i r2 hi=> ?_) (A7c.of fun e he=>⟨by simp [he],hX e he⟩))
 rw [List.getElem?_set]at hi⊢
 by_cases c:a=i
 ·subst c
  rw [if_pos rfl]at hi⊢
  split at hi
  ·injection hi with hi
   subst hi
   rename_i h3
   exact⟨[.sl b st 0 k],by rw [if_pos h3],⟨Frz.all hk,trivial⟩⟩
  ·cases hi
 ·rw [if_neg c]at hi⊢
  exact⟨r2,hi,B2c.same r2⟩
theorem Q9.set{T:List (List V)}{a b b2 st k:Nat}:Q9 (.rows 1 (T.set a [.sl b st 0 k])) (.rows 1 (T.set a [.sl b2 st 0 k])):=
 Q9.rows (by simp) fun i r2 hi=>by
  rw [List.getElem?_set]at hi⊢
  by_cases c:a=i
  ·subst c
   rw [if_pos rfl]at hi⊢
   split at hi
   ·injection hi with hi
    subst hi
    rename_i h3
    exact⟨[.sl b st 0 k],by rw [if_pos h3],⟨F4.sl,trivial⟩⟩
   ·cases hi
  ·rw [if_neg c]at hi⊢
   exact⟨r2,hi,A3Q.refl r2⟩
def O3(es:List (V×V)):Prop:= ∀e∈es,∃z,e.1= .int .i64 z
theorem O3.nil:O3 []:=fun e h=>by cases h
theorem A2P(a b:Int):A2X (.int .i64 a) (.int .i64 b)=some (decide (a=b)):=rfl
theorem O3.ok: ∀{es:List (V×V)} (h:O3 es) (k:Int),A2r (.int .i64 k) es
 | [],_,_=>trivial
 |e::r,h,k=>by
  obtain⟨z,hz⟩:=h e List.mem_cons_self
  exact⟨by rw [hz];rfl,O3.ok (fun x hx=>h x (List.mem_cons_of_mem _ hx)) k⟩
theorem O3.set: ∀{es:List (V×V)} (h:O3 es) (k:Int) (v:V),O3 (A5P (.int .i64 k) v es)
 | [],_,k,v=>fun e he=>by rw [A5P]at he;rw [List.mem_singleton.1 he];exact⟨k,rfl⟩
 | e::r,h,k,v=>by
  have ih:=O3.set (fun x hx=>h x (List.mem_cons_of_mem _ hx):O3 r) k v
  rw [A5P]
  cases(A2X (.int .i64 k) e.1).getD false with
  |true=>
   intro x hx
   rcases List.mem_cons.1 hx with rfl|hx
   ·exact⟨k,rfl⟩
   ·exact h x (List.mem_cons_of_mem _ hx)
  |false=>
   intro x hx
   rcases List.mem_cons.1 hx with rfl|hx
   ·exact h x List.mem_cons_self
   ·exact ih x hx
theorem A9i: ∀{es:List (V×V)} (h:O3 es) (k k':Int) (v:V),S7 (.int .i64 k') (A5P (.int .i64 k) v es)=if k'=k then some v else S7 (.int .i64 k') es
 | [],_,k,k',v=>by
  simp only [A5P,S7,A2P,Option.getD_some]
  by_cases c:k'=k<;>simp [c]
 | e::r,h,k,k',v=>by
  obtain⟨z,hz⟩:=h e List.mem_cons_self
  have ih:=A9i (fun x hx=>h x (List.mem_cons_of_mem _ hx):O3 r) k k' v
  obtain⟨ek,ev⟩:=e
  simp only at hz
  subst hz
  simp only [A5P,A2P,Option.getD_some]
  by_cases c:k=z
  ·subst c
   simp only [decide_true,cond_true,S7,A2P,Option.getD_some]
   by_cases c2:k'=k<;>simp [c2]
  ·simp only [c,decide_false,cond_false,S7,A2P,Option.getD_some]
   by_cases c2:k'=z
   ·subst c2
    have: ¬k'=k:=fun e=>c e.symm
    simp [this]
   ·simp only [c2,decide_false,cond_false]
    exact ih
structure MSet(es:List (V×V))(S:Int→Bool):Prop where
 keys:O3 es
 find: ∀k,S7 (.int .i64 k) es=if S k then some (.bool true)else none
theorem MSet.put{es:List (V×V)}{S:Int→Bool}(h:MSet es S)(z:Int):MSet (A5P (.int .i64 z) (.bool true) es) fun k=>S k||decide (k=z):=
 ⟨h.keys.set z _,fun k=>by
  rw [A9i h.keys,h.find]
  by_cases c:k=z
  ·simp [c]
  ·simp [c]⟩
theorem MSet.of{es:List (V×V)}{S T:Int→Bool}(h:MSet es S)(e:S=T):MSet es T:=e ▸ h
theorem MSet.nil:MSet [] fun _=>false:=⟨.nil,fun k=>rfl⟩
structure MNum(es:List (V×V))(f:Int→Option Nat):Prop where
 keys:O3 es
 find: ∀k,S7 (.int .i64 k) es=(f k).map fun j=> .int .i64 (j:Nat)
theorem MNum.put{es:List (V×V)}{f:Int→Option Nat}(h:MNum es f)(z:Int)(n:Nat):MNum (A5P (.int .i64 z) (.int .i64 n) es) fun k=>if k=z then some n else f k:=
 ⟨h.keys.set z _,fun k=>by
  rw [A9i h.keys,h.find]
  by_cases c:k=z
  ·simp [c]
  ·simp [c]⟩
theorem MNum.of{es:List (V×V)}{f g:Int→Option Nat}(h:MNum es f)(e:f=g):MNum es g:=e ▸ h
theorem MNum.nil:MNum [] fun _=>none:=⟨.nil,fun k=>rfl⟩
def zrw(z:Int):List V:= [.int .i64 z]
theorem A2.inplace{P:Program}{f:FuncId}(zs ds:List Int)(hm:0<zs.length)(hlen:ds.length=zs.length)(rv:Nat→Nat→Nat→Value)(r:V)(b st n:Nat)
  (hrv: ∀(E:Env) cap,st<E.n→zs.length≤cap→cap≤(E.ρ st).cap→(E.ρ st).sz=1→R E r (rv (E.ρ st).blk (E.ρ st).off cap))
  (hc: ∀(blk off cap:Nat) (w:World),Sort.Holds (Value.int .i64) w blk off zs.toArray→blk<w.heap.size→zs.length≤cap→
    Calls P f #[.slice (some ⟨blk,off,none⟩) zs.length cap] w fun e w'=>e= .returned (rv blk off cap)∧ ∃q os,w'=Sort.grow (Sort.putRow (Value.int .i64) (Sort.ahead w q) blk off ds.toArray) os):
  A2 P f [.sl b st 0 zs.length] [(b,st,.rows 1 (zs.map zrw))] n (fun r' h' n'=>r'=r∧h'= [(b,st,.rows 1 (ds.map zrw))]):=by
 intro w O ρ cargs hr hR
 obtain⟨hl,hR⟩:=hR
 obtain⟨cs⟩:=cargs
 match cs,hl with
 | [v], _=>
  have h0:=hR 0 _ v rfl rfl
  generalize hz:zs.length=m at h0 hm
  cases h0 with
  |sl0 _ _ _ a=>exact absurd hm (Nat.lt_irrefl _)
  | sl _ _ _ _ cap hst hn hcp=>
   subst hz
   have hmem:(b,st,Blk.rows 1 (zs.map zrw))∈ [(b,st,Blk.rows 1 (zs.map zrw))]:=List.mem_singleton.2 rfl
   obtain⟨hsz,hlen',hcell,hrows⟩:=hr.blk _ hmem
   simp only at hsz hlen' hcell hrows hcp
   simp only [Nat.zero_add]at hcp
   have hcap0:(ρ st).cap≠0:=by omega
   obtain⟨hc1,hc2⟩:=hcell hcap0
   have hH:Sort.Holds (Value.int .i64) w (ρ st).blk ((ρ st).off+0*(ρ st).sz) zs.toArray:=by
    intro j hj
    have hj':j<zs.length:=by simpa using hj
    have hrow:=(hrows j (zrw zs[j]) (by simp [hj'])).2 0 (.int .i64 zs[j]) rfl
    obtain⟨x,q1,_,q3⟩:=hrow
    have hx:=q3.int_inv
    subst hx
    have hf:=(hc1 j (by omega)).2
    rw [Nat.zero_mul,Nat.add_zero]
    refine⟨?_,hf⟩
    rw [Nat.mul_one,Nat.add_zero]at q1
    rw [q1]
    simp [hj']
   refine(hc (ρ st).blk ((ρ st).off+0*(ρ st).sz) cap w hH hc2 hn).mono ?_
   rintro e w' ⟨rfl,q,os,rfl⟩
   have hds:ds.toArray.size=zs.toArray.size:=by simpa using hlen
   have hHa:Sort.Holds (Value.int .i64) (Sort.ahead w q) (ρ st).blk ((ρ st).off+0*(ρ st).sz) zs.toArray:=hH
   have hsp:(ρ st).blk<(Sort.putRow (Value.int .i64) (Sort.ahead w q) (ρ st).blk ((ρ st).off+0*(ρ st).sz) ds.toArray).heap.size:=by
    rw [Sort.size_putRow];exact hc2
   have hother: ∀y,y≠(ρ st).blk→(Sort.putRow (Value.int .i64) (Sort.ahead w q) (ρ st).blk ((ρ st).off+0*(ρ st).sz) ds.toArray).heap[y]? =w.heap[y]? :=by
    intro y hy
    simp only [Sort.putRow,Sort.mapBlock,Sort.heap_ahead]
    rw [Array.getElem?_modify]
    rw [if_neg (fun h=>hy h.symm)]
   obtain⟨s1,s2⟩:=HeapR.step (w':=Sort.grow (Sort.putRow (Value.int .i64) (Sort.ahead w q) (ρ st).blk ((ρ st).off+0*(ρ st).sz) ds.toArray) os) (ρ':=ρ) (n':=n) (b:=b) (st:=st) (x:= .rows 1 (ds.map zrw)) hr (Nat.le_refl _) (fun _ _=>rfl) hst
    ⟨by rw [Sort.size_grow,Sort.size_putRow];exact Nat.le_add_right _ _,rfl,rfl⟩
    (fun y hy hyc=>by
      have hne:y≠(ρ st).blk:=fun h=>hcap0 (hyc h)
      rw [Sort.heap_grow_old _ _ (by rw [Sort.size_putRow];exact hy)]
      exact hother y hne)
    (.inr (.inr ⟨_,hmem,rfl,hcap0,rfl⟩))
    (fun _=>by
      refine⟨hsz,by simp only [List.length_map];omega,fun _=>⟨fun j hj=> ?_,?_⟩,fun i row hi=> ?_⟩
      ·rw [Sort.cell?_grow _ _ _ hsp,Sort.frozen?_grow _ _ _ hsp,Sort.frozen?_putRow]
       obtain⟨k1,k2⟩:=hc1 j hj
       refine⟨?_,k2⟩
       by_cases hjl:j<ds.length
       ·have:=Sort.cell?_putRow (Value.int .i64) (Sort.ahead w q) (ρ st).blk ((ρ st).off+0*(ρ st).sz) zs.toArray ds.toArray hHa hds j (by simpa using hjl)
        rw [Nat.zero_mul,Nat.add_zero]at this⊢
        rw [this];rfl
       ·rw [Sort.cell?_putRow_other _ _ _ _ _ _ (.inr (.inr (by simp;omega)))]
        exact k1
      ·rw [Sort.size_grow,Sort.size_putRow]
       exact Nat.lt_of_lt_of_le hc2 (Nat.le_add_right _ _)
      ·rw [List.getElem?_map,Option.map_eq_some_iff]at hi
       obtain⟨z,hz,rfl⟩:=hi
       have hil:=(List.getElem?_eq_some_iff.1 hz).1
       refine⟨rfl,fun j c hj=> ?_⟩
       have hj0:j=0∧c= .int .i64 z:=by
        cases j with
        |zero=>simp [zrw]at hj;exact⟨rfl,hj.symm⟩
        |succ j=>simp [zrw]at hj
       obtain⟨rfl,rfl⟩:=hj0
       refine⟨.int .i64 z,?_,rfl,.int _ _⟩
       have:=Sort.cell?_putRow (Value.int .i64) (Sort.ahead w q) (ρ st).blk ((ρ st).off+0*(ρ st).sz) zs.toArray ds.toArray hHa hds i (by simpa using hil)
       rw [Sort.cell?_grow _ _ _ hsp]
       rw [Nat.mul_one,Nat.add_zero]
       rw [Nat.zero_mul,Nat.add_zero]at this⊢
       rw [this]
       have hget:ds[i]=z:=by
        have:=List.getElem?_eq_getElem hil
        rw [hz]at this
        injection this with this
        exact this.symm
       simp [hil,hget])
   have hput:A0.put [(b,st,Blk.rows 1 (zs.map zrw))] b st (.rows 1 (ds.map zrw))= [(b,st,.rows 1 (ds.map zrw))]:=by
    simp [A0.put,A0.del]
   rw [hput]at s1 s2
   refine⟨_,r,_,n,ρ,rfl,⟨rfl,rfl⟩,s1,?_,s2⟩
   have:=hrv (A5 (Sort.grow (Sort.putRow (Value.int .i64) (Sort.ahead w q) (ρ st).blk ((ρ st).off+0*(ρ st).sz) ds.toArray) os) O ρ n [(b,st,.rows 1 (ds.map zrw))]) cap hst hn hcp hsz
   rw [Nat.zero_mul,Nat.add_zero]at this⊢
   exact this
end Go.Abs
