/-
 Which instructions violate an invariant. No condition.
-/
import Derived.Test.YtcaaenddpjepiaaGreatDoorVerP1
import Derived.Test.YtcaaenddpjepiaaGreatDoorVer7
import Derived.Test.YtcaaenddpjepiaaGreatDoorOpc3
set_option linter.unusedVariables false
set_option linter.unusedSimpArgs false
set_option maxRecDepth 100000
set_option maxHeartbeats 0
namespace Go.Proofs.YtcaaenddpjepiaaGreatDoor
open Go.Abs
attribute [local irreducible] A0 Run
-- EV: Ins.v, Ins.row
attribute [local go_sem] Ins.v Ins.row
-- EV: Ins.v, Ins.row
theorem B8X(N:Nat)(s:Stt)(z:Int)(i:0≤z)(k:z<N)(st:Nat)(h:A2)(o m:V)(n:Nat)
  (e:A2.get h (155*10000+5) st=some (.rows 3 [[.isl (B0 N s.set),o,m]])):
  A0 Tryz.prog 178 [.int .i64 z,.ptr (155*10000+5) st 0 0] h n fun r d j=>r= .bool (!s.set z.toNat)∧d=h:=by
 obtain⟨Z,rfl⟩: ∃Z:Nat,z=Z:=⟨z.toNat,by omega⟩
 have a:=D6 N s.set
 have b:=H7 (f:=s.set) (show Z<N by omega)
 have c:=H8 N s.set
 generalize B0 N s.set=F at*
 refine A0.enterK A6o Jk fun Q g=>Run.go 100 ?_
 simp -implicitDefEqProofs only [go_sem,A4,e,a,c,b,Int.toNat_natCast,Option.some.injEq,forall_eq']
 subst g
 exact⟨by omega,by omega,by omega,.is ⟨rfl,rfl⟩⟩
theorem C1Z(p:Fn)(C:Sound p)(i:Ins)(H:i∈p.code)(s:Stt)(P:s.opn≤p.regs)(o: ¬(0≤(reads i).2∨i.op=22))(n:Nat):
  A0 Tryz.prog 155 [.agg p.row,i.v,.agg [.isl (B0 p.regs.toNat s.set),.int .i64 s.opn,.isl (s.marks.map zrw)]] [] n fun r t z=>r= .bool (A6v p i s)∧t= []:=by
 obtain⟨l,k⟩:=B4 p
 have J:=B1Q i
 have y:=C.regs
 have j:=C.reads i H
 have b: ¬i.op=22:=fun h=>o (.inr h)
 have c: ¬0≤(reads i).2:=fun h=>o (.inl h)
 have L:A8s p i s=(reads i).1:=by unfold A8s A4I C0w;rw [if_neg c,if_neg b];simp
 have G:A6v p i s=(A2A (reads i).2 s.opn&& !(reads i).1.any fun r=> !s.set r.toNat):=by unfold A6v;rw [L]
 rw [G]
 have K:=fun d h=>(G8 (d:=d) (h:=h)).elim fun φ e=>show (B0 p.regs.toNat s.set).map (fun r=>r.map (frz d h))=B0 p.regs.toNat s.set by rw [e];exact U1 φ _ _
 have g: ∀h,A2.get h (155*10000+5) (n+1+1)=some (.rows 3 [[.isl (B0 p.regs.toNat s.set),.int .i64 s.opn,.isl (s.marks.map zrw)]])→ ∀u,A0 Tryz.prog 131 [.isl ((reads i).1.map zrw),.fn 178 [.ptr (155*10000+5) (n+1+1) 0 0]] h u fun r t z=>r= .bool ((reads i).1.any fun r=> !s.set r.toNat)∧t=h:=
  fun h D u=>A2w (reads i).1 (Nat.le_trans (B0K i) zh) (fun r=> !s.set r.toNat) 178 [.ptr (155*10000+5) (n+1+1) 0 0] h zj (fun x B m=>B8X p.regs.toNat s x (j x B).1 (by have:=(j x B).2;omega) (n+1+1) h (.int .i64 s.opn) (.isl (s.marks.map zrw)) m D) u
 generalize S:(B0 p.regs.toNat s.set)=F at*
 generalize O:(s.marks.map zrw)=M at*
 generalize N:(reads i).2=q at*
 generalize (reads i).1.any (fun r=> !s.set r.toNat)=R at*
 generalize T:(reads i).1.map zrw=A at*
 generalize p.row=I at*
 refine A0.enterK A4t Jk fun Q v=>Run.go 100 ?_
 simp -implicitDefEqProofs only [go_sem,A4,l,k]
 refine A0.pureF J ze ?_
 by_cases a:0≤s.opn
 ·have:A2A q s.opn=false:=by simp [A2A,c,a]
  simp -implicitDefEqProofs only [go_sem,l,k,c,b,a]
  subst v;rw [this];exact .to ⟨rfl,rfl⟩ (.sub ze)
 by_cases f:s.opn<q
 ·have:A2A q s.opn=false:=by simp [A2A,c,a];omega
  simp -implicitDefEqProofs only [go_sem,l,k,c,b,a,f]
  subst v;rw [this];exact .to ⟨rfl,rfl⟩ (.sub ze)
 have w:A2A q s.opn=true:=by simp [A2A,c,a];omega
 simp -implicitDefEqProofs only [go_sem,l,k,c,b,a,f]
 refine Run.keep [9,7,5,4,3] ?_
 refine Run.roundsK (fun(x:Nat)=>⟨[(9,.int .i64 q),(7,.isl A),(5,.ptr (155*10000+5) (n+1+1) 0 0),(4,.ptr (155*10000+4) (n+1) 0 0),(3,.ptr (155*10000+3) n 0 0)],[((155*10000+5),n+1+1,.rows 3 [[.isl F,.int .i64 s.opn,.isl M]]),((155*10000+4),n+1,.rows 5 [[.int .i64 i.op,.int .i64 i.a,.int .i64 i.b,.int .i64 i.c,.int .i64 i.d]]),((155*10000+3),n,.rows 11 [I])],x⟩) (fun _=>True) (fun _=>0) (n+1+1+1) (C1.wk (C1.of ze (fun e E=>E) (Nat.le_refl _))) trivial ?_
 intro m _ _
 refine Run.unf A1G (Run.go 100 ?_)
 simp -implicitDefEqProofs only [go_sem,l,k,c,b,a,f]
 refine(g _ ?_ _).mono ?_
 ·exact ze
 rintro r t z ⟨rfl,rfl⟩
 refine QL ?_
 subst v;rw [w,Bool.true_and];exact .to ⟨rfl,rfl⟩ (.sub ze)
theorem C3Y(p:Fn)(hs:Sound p)(i:Ins)(hi:i∈p.code)(s:Stt)(ho:s.opn≤p.regs)(hno:0≤(reads i).2∨i.op=22)(n:Nat):
  A0 Tryz.prog 155 [.agg p.row,i.v,.agg [.isl (B0 p.regs.toNat s.set),.int .i64 s.opn,.isl (s.marks.map zrw)]] [] n fun r h' n'=>r= .bool (A6v p i s)∧h'= []:=by
 obtain⟨P,h2⟩:=B4 p
 have hR:=C6W i hno
 have hreg:=hs.regs
 have hrd:=hs.reads i hi
 have hF:A6v p i s=(A2A (reads i).2 s.opn&& !(A8s p i s).any fun r=> !s.set r.toNat):=rfl
 rw [hF]
 have hsb:=fun d h=>(G8 (d:=d) (h:=h)).elim fun φ e=>show (B0 p.regs.toNat s.set).map (fun r=>r.map (frz d h))=B0 p.regs.toNat s.set by rw [e];exact U1 φ _ _
 have y: ∀L:List Int,L.length≤1000000→(∀x∈L,0≤x∧x<p.regs)→ ∀h,A2.get h (155*10000+5) (n+1+1)=some (.rows 3 [[.isl (B0 p.regs.toNat s.set),.int .i64 s.opn,.isl (s.marks.map zrw)]])→ ∀n2,A0 Tryz.prog 131 [.isl (L.map zrw),.fn 178 [.ptr (155*10000+5) (n+1+1) 0 0]] h n2 fun r h' n'=>r= .bool (L.any fun r=> !s.set r.toNat)∧h'=h:=
  fun L hl C h hh n2=>A2w L (Nat.le_trans hl zh) (fun r=> !s.set r.toNat) 178 [.ptr (155*10000+5) (n+1+1) 0 0] h zj (fun x f m=>B8X p.regs.toNat s x (C x f).1 (by have:=(C x f).2;omega) (n+1+1) h (.int .i64 s.opn) (.isl (s.marks.map zrw)) m hh) n2
 generalize t:(B0 p.regs.toNat s.set)=F at*
 generalize hM:(s.marks.map zrw)=MS at*
 generalize hrr:(reads i).2=O at*
 generalize hA:(reads i).1=A at*
 refine A0.enterK A4t Jk fun Q G=>Run.go 100 ?_
 simp -implicitDefEqProofs only [go_sem,A4,P,h2]
 refine A0.at [] [0,1,2] (hR _) rfl rfl ?_
 rintro r h' n1 hn1 ⟨st,rfl,rfl⟩
 by_cases j:A2A O s.opn=true
 case neg=>
  have j:A2A O s.opn=false:=by simpa using j
  have g:=j
  simp only [A2A,Bool.and_eq_false_iff,decide_eq_false_iff_not]at g
  rw [j]at G
  simp -implicitDefEqProofs only [go_sem,P,h2]
  refine⟨fun h=>⟨fun _=> ?_,fun h3=> ?_⟩,fun _=> ?_⟩
  ·subst G;exact .to ⟨rfl,rfl⟩ (.sub ze)
  ·rcases g with h4|h4
   ·exact absurd (decide_eq_decide.1 h) h4
   ·omega
  ·subst G;exact .to ⟨rfl,rfl⟩ (.sub ze)
 have g:=j
 simp only [A2A,Bool.and_eq_true,decide_eq_true_eq]at g
 have hfo:(O≤s.opn)=True:=eq_true g.2
 have hfo2:(s.opn<O)=False:=Jj
 have hfo3:decide (0≤O)=decide (0≤s.opn):=decide_eq_decide.2 g.1
 simp -implicitDefEqProofs only [go_sem,P,h2,hfo2,hfo3]
 refine Run.keep [9,7,5,4,3] ?_
 obtain⟨H3,S⟩: ∃H3:A2,[((155*10000+5),n+1+1,.rows 3 [[.isl F,.int .i64 s.opn,.isl MS]]),((155*10000+4),n+1,.rows 5 [[.int .i64 i.op,.int .i64 i.a,.int .i64 i.b,.int .i64 i.c,.int .i64 i.d]]),((155*10000+3),n,.rows 11 [p.row])]=H3:=⟨_,rfl⟩
 have hAl:A.length≤5000:=by
  have h:=A5R (a:=0) (b:=4096) (B0B i) (fun x f=>((A3Y i).1 x f).1) (fun x f=>((A3Y i).1 x f).2)
  rw [hA]at h;omega
 have hRl:(A4I O s.opn).length≤4096:=by unfold A4I;split<;>simp<;>omega
 have hRin: ∀x∈A4I O s.opn,0≤x∧x<p.regs:=fun x f=>by
  unfold A4I at f
  split at f
  ·rename_i h0
   obtain⟨k,Y,rfl⟩:=List.mem_map.1 f
   have:=List.mem_range.1 Y
   omega
  ·simp at f
 refine Run.roundsK (fun(x:Int×List Int×Nat×Nat)=>⟨[(9,.int .i64 x.1),(7,.sl (155*10000+43) x.2.2.1 0 x.2.1.length),(5,.ptr (155*10000+5) (n+1+1) 0 0),(4,.ptr (155*10000+4) (n+1) 0 0),(3,.ptr (155*10000+3) n 0 0)],[((155*10000+43),x.2.2.1,.rows 1 (x.2.1.map zrw)),((155*10000+5),n+1+1,.rows 3 [[.isl F,.int .i64 s.opn,.isl MS]]),((155*10000+4),n+1,.rows 5 [[.int .i64 i.op,.int .i64 i.a,.int .i64 i.b,.int .i64 i.c,.int .i64 i.d]]),((155*10000+3),n,.rows 11 [p.row])],x.2.2.2⟩)
  (fun x=>x.2.1++A4I x.1 s.opn=A++A4I O s.opn∧(0≤x.1→x.1≤s.opn)) (fun x=>(s.opn-x.1).toNat) (O,A,st,n1) ?_ ⟨rfl,fun _=>g.2⟩ ?_
 ·exact .turn (fun x=>if x=(79*10000+60)then(155*10000+43)else x) ⟨.refl _,.sl,.refl _,.refl _,.refl _,trivial⟩ (.at 0 rfl rfl (.refl _) (.at 1 rfl rfl (.refl _) (.at 2 rfl rfl (.refl _) (.at 3 rfl rfl (.refl _) trivial))))
 have hsl: ∀nm:Nat,nm≠(155*10000+5)→nm≠(155*10000+4)→nm≠(155*10000+3)→ ∀st (L:List Int) m,L.length≤1000000→(∀x∈L,0≤x∧x<p.regs)→A0 Tryz.prog 131 [.sl nm st 0 L.length,.fn 178 [.ptr (155*10000+5) (n+1+1) 0 0]]
   ((nm,st,.rows 1 (L.map zrw))::H3) m fun r h' n'=>r= .bool (L.any fun r=> !s.set r.toNat)∧h'=H3:=fun nm e5 e4 e3 st L m hl C=>
  A0.pre (xs':= [.isl (L.map zrw),.fn 178 [.ptr (155*10000+5) (n+1+1) 0 0]]) (h':=H3) (n':=m) (.freeze (b:=nm) (st:=st) (sz:=1) (rs:=L.map zrw) List.mem_cons_self ⟨.of (.refl _),Frz.all (List.length_map ..).symm,trivial⟩ (A4E.of fun e l=>by
   refine⟨List.mem_cons_of_mem _ l,?_⟩
   rw [←S]at l
   simp only [List.mem_cons,List.not_mem_nil,or_false]at l
   rcases l with h|h|h<;>rw [h]<;>simp only<;>omega)) rfl (y L hl C H3 (by rw [←S];simp -implicitDefEqProofs only [go_sem]) m)
 rintro⟨r,L,st,m⟩ ⟨C,hr⟩ ih
 simp only at C hr ih⊢
 have hll:(L.map zrw).length=L.length:=List.length_map ..
 have hlz:=H1 L
 have hLl:L.length≤10000:=by have:=congrArg List.length C;simp only [List.length_append]at this;omega
 refine Run.unf A1G (Run.go 100 ?_)
 by_cases hgo:0≤r∧r<s.opn
 ·obtain⟨hg1,hg2⟩:=hgo
  have hnx:A4I r s.opn=r::A4I (r+1) s.opn:=by
   unfold A4I
   rw [if_pos hg1,if_pos (by omega:0≤r+1),show (s.opn-r).toNat=(s.opn-(r+1)).toNat+1 by omega,List.range_succ_eq_map,List.map_cons,List.map_map]
   congr 1
   ·simp
   ·exact List.map_congr_left fun x _=>by simp only [Function.comp];omega
  have w:(L.map zrw).take L.length=L.map zrw:=List.take_of_length_le zd
  simp -implicitDefEqProofs only [go_sem,hg1,hg2,hll,hlz,w]
  have H:(L++ [r]).length=L.length+1:=by simp
  have N:(L++ [r]).map zrw=L.map zrw++ [[.int .i64 r]]:=by simp [zrw]
  refine⟨by omega,⟨by omega,by omega⟩,ih _ (r+1,L++ [r],m,m+1) ⟨?_,fun _=>by simp only;omega⟩ zg (by simp only [H,N];exact C1.wk (C1.of ze (fun e l=>l) (Nat.le_refl _)))⟩
  simp only
  rw [List.append_assoc,←C,hnx];rfl
 have C:L=A++A4I O s.opn:=by
  rw [←C]
  have:A4I r s.opn= []:=by
   unfold A4I
   split
   ·rw [show (s.opn-r).toNat=0 by omega];rfl
   ·rfl
  rw [this,List.append_nil]
 have E: ∀x∈L,0≤x∧x<p.regs:=fun x f=>by
  rw [C]at f
  rcases List.mem_append.1 f with f|f
  ·exact hrd x f
  ·exact hRin x f
 have W:(0≤r)=False∨((0≤r)=True∧(r<s.opn)=False):=by
  by_cases c:0≤r
  ·exact .inr ⟨eq_true c,eq_false fun h=>hgo ⟨c,h⟩⟩
  ·exact .inl (eq_false c)
 by_cases o:i.op=22
 case neg=>
  have K:A8s p i s=L:=by rw [C];unfold A8s C0w;rw [if_neg o,hA,hrr,List.append_nil]
  rw [K]at G
  have Z:=hsl (155*10000+43) zh zh zh st L m zd E
  rw [←S]at Z
  rcases W with g1|⟨g1,g2⟩
  ·simp -implicitDefEqProofs only [go_sem,g1,o]
   exact XY
  ·simp -implicitDefEqProofs only [go_sem,g1,g2,o]
   exact XY
 obtain⟨hb0,q,hq⟩:=hs.proto hi o
 have hqm:=List.mem_of_getElem? hq
 have hul:=hs.upsl q hqm
 have hup:=hs.ups q hqm
 have K:A8s p i s=L++((q.ups.filter Upv.loc).map Upv.idx):=by rw [C];unfold A8s C0w;rw [if_pos o,hA,hrr,hq];rfl
 rw [K]at G
 have h8:p.row[8]? =some (.isl (p.protos.map Fn.row)):=by rw [Fn.row_eq];rfl
 have l8:(p.protos.map Fn.row).length=p.protos.length:=List.length_map ..
 have z8:=eq_true (B3 Fn.row 11 Fn.row_len p.protos)
 have hqr:(p.protos.map Fn.row)[i.b.toNat]? =some q.row:=by rw [List.getElem?_map,hq];rfl
 have h9:q.row[9]? =some (.isl (q.ups.map Upv.row)):=by rw [Fn.row_eq];rfl
 have l9:(q.ups.map Upv.row).length=q.ups.length:=List.length_map ..
 have z9:=eq_true (B3 Upv.row 3 (fun _=>rfl) q.ups)
 have r9: ∀(k:Nat) x,q.ups[k]? =some x→(q.ups.map Upv.row)[k]? =some (Upv.row x):=fun k x Y=>by rw [List.getElem?_map,Y];rfl
 have R:(i.b<(p.protos.length:Int))=True:=eq_true (by have:=(List.getElem?_eq_some_iff.1 hq).1;omega)
 have V:(0≤i.b)=True:=eq_true hb0
 obtain⟨m1,D⟩:=B4 q
 generalize q.ups.map Upv.row=U at*
 generalize p.protos.map Fn.row=PR at*
 generalize hqrr:q.row=qr at*
 rw [o]at S
 rcases W with g1|⟨g1,g2⟩
 ·simp -implicitDefEqProofs only [go_sem,g1,o,P,h2,h8,l8,z8,hqr,V,R,h9,l9,m1,D,Option.some.injEq,forall_eq']
  exact JB
 ·simp -implicitDefEqProofs only [go_sem,g1,g2,o,P,h2,h8,l8,z8,hqr,V,R,h9,l9,m1,D,Option.some.injEq,forall_eq']
  exact JB
theorem C2S(p:Fn)(b:Sound p)(i:Ins)(a:i∈p.code)(s:Stt)(c:s.opn≤p.regs)(n:Nat):
  A0 Tryz.prog 155 [.agg p.row,i.v,.agg [.isl (B0 p.regs.toNat s.set),.int .i64 s.opn,.isl (s.marks.map zrw)]] [] n fun r d e=>r= .bool (A6v p i s)∧d= []:=by
 by_cases h:0≤(reads i).2∨i.op=22
 ·exact C3Y p b i a s c h n
 ·exact C1Z p b i a s c h n
-- EV: Ins.v, Ins.row
theorem D0h{α:Type}{a b:List α}{k:Nat}{x y:α}(c:a[k]? =some x)(h2:b[k]? =some y)(h: ¬x=y): ¬a=b:=fun e=>by
 subst e;rw [c]at h2;exact h (Option.some.inj h2)
theorem C5C{α:Type}{a b:List α}(c:a.length=b.length)(h:a.take a.length=b.take a.length):a=b:=by
 rw [List.take_length,c,List.take_length]at h;exact h
theorem B7t{α:Type}{a b:List α}{k:Nat}{x:α}(h:a.take k=b.take k)(c:a[k]? =some x)(h2:b[k]? =some x):a.take (k+1)=b.take (k+1):=by
 rw [List.take_add_one,List.take_add_one,h,c,h2]
theorem Run.two{c:Cf}{k:List AItem}{s0 d s:St}{P p B:Prop}(b:P→B∧Wk d s0)(h2:p→Wk s s0)(h:Run c k s0):(P→B∧Run c k d)∧(p→Run c k s):=
 ⟨fun a=>⟨(b a).1,Run.wk (b a).2 h⟩,fun a=>Run.wk (h2 a) h⟩
theorem C4D(a b:List Int)(E:a.length≤1000000):Pure Tryz.prog 38 [.isl (a.map D1),.isl (b.map D1)] (.bool (decide (a=b))):=by
 have n:(a.map D1).length=a.length:=List.length_map ..
 have m:(b.map D1).length=b.length:=List.length_map ..
 have t:=eq_true (B3 D1 1 (fun _=>rfl) a)
 have z:=eq_true (B3 D1 1 (fun _=>rfl) b)
 have w: ∀(k:Nat) x,a[k]? =some x→(a.map D1)[k]? =some (D1 x):=fun k x l=>by rw [List.getElem?_map,l];rfl
 have C: ∀(k:Nat) x,b[k]? =some x→(b.map D1)[k]? =some (D1 x):=fun k x l=>by rw [List.getElem?_map,l];rfl
 generalize a.map D1=A at*
 generalize b.map D1=B at*
 refine Pure.of 0 (A0.enter Y3 Jk (Run.go 100 ?_))
 by_cases r:a.length=b.length
 ·have c:((a.length:Int)=(b.length:Int))=True:=Ji
  simp -implicitDefEqProofs only [go_sem,A4,n,m,c]
  refine Run.rounds (fun(k:Nat)=>⟨[(13,.int .i64 k),(12,.int .i64 a.length),(1,.isl B),(0,.isl A)],[],0⟩) (fun k=>k≤a.length∧a.take k=b.take k) (fun k=>a.length-k) 0 zJ ⟨Nat.zero_le _,rfl⟩ ?_
  rintro k ⟨l,g⟩ D
  refine Run.unf S4 (Run.go 100 ?_)
  by_cases d:k<a.length
  ·have u:((k:Int)<(a.length:Int))=True:=Ji
   have s:((0:Int)≤(k:Int))=True:=Ji
   have v:((k:Int)<(b.length:Int))=True:=Ji
   obtain⟨x,q⟩: ∃x,a[k]? =some x:=⟨a[k],by simp [d]⟩
   obtain⟨y,o⟩: ∃y,b[k]? =some y:=⟨b[k]' zd,by simp [show k<b.length by omega]⟩
   have j:=w k x q
   have i:=C k y o
   have p:((k+1:Nat):Int)=(k:Int)+1:=by omega
   by_cases h:x=y
   ·simp -implicitDefEqProofs only [go_sem,u,s,v,n,m,t,z,j,i,D1,h,Option.some.injEq,forall_eq']
    refine⟨d,by omega,by omega,?_⟩
    exact D _ (k+1) ⟨by omega,B7t g q (h ▸ o)⟩ zd zZ
   ·have f:=D0h q o h
    exact Yl
  ·have e:k=a.length:=by omega
   subst e
   simp -implicitDefEqProofs only [go_sem,Int.lt_irrefl,C5C r g]
 ·exact Yc
theorem C5L(i:Ins)(z:Int)(st:Nat)(h:A2)(n:Nat)(a:A2.get h (112*10000+9) st=some (.rows 5 [i.row])):
  A0 Tryz.prog 156 [.int .i64 z,.ptr (112*10000+9) st 0 0] h n fun r b d=>r= .bool (decide (i.a≤z))∧b=h:=by
 refine A0.enterK A4d Jk fun Q c=>Run.go 100 ?_
 simp only [Ins.row]at a
 simp -implicitDefEqProofs only [go_sem,A4,a]
 subst c
 exact XR
theorem D1V(p:Fn)(h:p.code.length≤100000)(a:Int):Pure Tryz.prog 59 [.agg p.row,.int .i64 a] (.isl ((C5 p.code a).map zrw)):=by
 rw [Fn.row_eq]
 exact A1L p.code a h _ _ _ _ _ _ _ _ _ _
theorem C7L(p:Fn)(hs:Sound p)(M:Nat→Option Stt)(L:List Nat)(hK:Kn p.regs.toNat p.code.length L M)(hS:A0T p.regs.toNat p.code p.params M)(a:Nat)(ha:a<p.code.length)(s:Stt)(U:M a=some s)(n v m:Nat)(Q:Res)
  (G:Q=fun r h' P=>r= .bool ((C5 p.code a).any (B9k p.code M a (G5 p.code a) s))∧h'= [((110*10000+14),v,.map (Q7 L (n7 p.regs.toNat M)))]):
  Run ⟨Tryz.prog,109,[.t 6],Z2 Q,none⟩ [.code (E0 (E0 (E0 (E0 (E0 A6p)))))]
   ⟨[(9,.ptr (112*10000+9) (n+1+1) 0 0),(7,.ptr (112*10000+7) (n+1) 0 0),(3,.ptr (112*10000+3) n 0 0),(2,.mp (110*10000+14) v),(1,.int .i64 a)],
   [((112*10000+9),n+1+1,.rows 5 [(G5 p.code a).row]),((112*10000+7),n+1,.rows 3 [[.isl (B0 p.regs.toNat s.set),.int .i64 s.opn,.isl (s.marks.map zrw)]]),((112*10000+3),n,.rows 11 [p.row]),((110*10000+14),v,.map (Q7 L (n7 p.regs.toNat M)))],m⟩:=by
 obtain⟨W,V⟩:=B4 p
 have hreg:=hs.regs
 have hcl:=hs.code
 have j: ∀z:Int,A5X (.int .i64 z) (Q7 L (n7 p.regs.toNat M))=True:=fun z=>eq_true ((B3K _ _).ok z)
 have J:p.row[5]? =some (.isl (p.code.map Ins.row)):=by rw [Fn.row_eq];rfl
 have l5:(p.code.map Ins.row).length=p.code.length:=List.length_map ..
 have z5:=eq_true (B3 Ins.row 5 (fun _=>rfl) p.code)
 have r5: ∀(k:Nat) x,p.code[k]? =some x→(p.code.map Ins.row)[k]? =some (Ins.row x):=fun k x hk=>by rw [List.getElem?_map,hk];rfl
 obtain⟨hi,him⟩:=A3D ha
 have hnx:=D1V p zd a
 have hps:=fun d h=>(G8 (d:=d) (h:=h)).elim fun φ e=>show p.row.map (frz d h)=p.row by rw [e];exact Fn.row_sub φ p
 have hll:=hK.len
 have hml:=hK.ml a s U
 have hpl:=fun(b:Int)=>B4F p.regs.toNat p.code p.row W V J a _ hi b zd s zd (hs.fit _ him) zd
 have hin:=fun x (hx:x∈C5 p.code a)=>i2 hx
 have hnl2:=R5 p.code a
 have hto:=fun t (w:t∈C5 p.code a)=>hS.next ha U w
 have hlk: ∀(B:Nat) o,M B=some o→u7 (.int .i64 (B:Nat)) (Q7 L (n7 p.regs.toNat M))=some (A4s (.isl (B0 p.regs.toNat o.set)) o):=fun B o h=>by
  rw [B2C (hK.yes h)];simp only [n7,h]
 have X: ∀B:Nat,B<p.code.length→(p.code.map Ins.row)[B]? =some (G5 p.code B).row:=fun B h=>r5 B _ (A3D h).1
 have hsb:=fun d h=>(G8 (d:=d) (h:=h)).elim fun φ e=>show (B0 p.regs.toNat s.set).map (fun r=>r.map (frz d h))=B0 p.regs.toNat s.set by rw [e];exact U1 φ _ _
 have hsm:=fun d h=>(G8 (d:=d) (h:=h)).elim fun φ e=>show (s.marks.map zrw).map (fun r=>r.map (frz d h))=s.marks.map zrw by rw [e];exact W9 φ _
 have Z:=Fn.row_sub C7 p
 generalize hes:Q7 L (n7 p.regs.toNat M)=es at*
 generalize hbE:B9k p.code M a (G5 p.code a) s=R at*
 generalize hii:G5 p.code a=i at*
 generalize hCR:p.code.map Ins.row=CR at*
 generalize hpr:p.row=pr at*
 generalize hFS:B0 p.regs.toNat s.set=FSs at*
 generalize hMS:s.marks.map zrw=MS at*
 generalize hnl:C5 p.code a=g at*
 have S: ∀(k:Nat) (x:Int),g[k]? =some x→(g.map zrw)[k]? =some [.int .i64 x]:=fun k x h=>P9 h
 have H:(g.map zrw).length=g.length:=List.length_map ..
 have hnlz:=H1 g
 generalize g.map zrw=nls at*
 refine Run.go 100 ?_
 simp -implicitDefEqProofs only [go_sem,E0,W,V]
 refine A0.pureF hnx Qk ?_
 simp -implicitDefEqProofs only [go_sem,H]
 refine Run.keep [67,66,65,9,7,3,2,1] ?_
 refine Run.roundsK (fun(x:Nat×Nat)=>⟨[(67,.int .i64 x.1),(66,.int .i64 g.length),(65,.isl nls),(9,.ptr (112*10000+9) (n+1+1) 0 0),(7,.ptr (112*10000+7) (n+1) 0 0),(3,.ptr (112*10000+3) n 0 0),(2,.mp (110*10000+14) v),(1,.int .i64 a)],
   [((112*10000+9),n+1+1,.rows 5 [i.row]),((112*10000+7),n+1,.rows 3 [[.isl FSs,.int .i64 s.opn,.isl MS]]),((112*10000+3),n,.rows 11 [pr]),((110*10000+14),v,.map es)],x.2⟩)
  (fun x=>x.1≤g.length∧(g.take x.1).any R=false) (fun x=>g.length-x.1) (0,m) (C1.wk (C1.of ze (fun e f=>f) (Nat.le_refl _))) ⟨Nat.zero_le _,rfl⟩ ?_
 rintro⟨k,m2⟩ ⟨hk,y⟩ ih
 simp only at hk y ih⊢
 refine Run.unf j8 (Run.go 100 ?_)
 by_cases T:k<g.length
 case neg=>
  have e:k=g.length:=by omega
  subst e
  refine QN ?_
  rw [I4 y]at G
  subst G
  exact .to ⟨rfl,rfl⟩ (.sub ze)
 have w0:((k:Int)<(g.length:Int))=True:=Ji
 have w1:((0:Int)≤(k:Int))=True:=Ji
 obtain⟨t,w⟩: ∃x,g[k]? =some x:=⟨g[k],by simp [T]⟩
 have htr:=S k t w
 have hzk:((k+1:Nat):Int)=(k:Int)+1:=by omega
 obtain⟨ht0,htn⟩:=hin t (List.mem_of_getElem? w)
 obtain⟨o,ho⟩:=hto t (List.mem_of_getElem? w)
 obtain⟨B,rfl⟩: ∃B:Nat,t=B:=⟨t.toNat,by omega⟩
 rw [Int.toNat_natCast]at ho
 have I:B<p.code.length:=by omega
 have u:=hlk B o ho
 have hiB:=X B I
 have D:R (B:Int)=(decide ((C6 i).2≠o.opn)||(!decide (I7 i s.marks=o.marks)||(decide ((B:Int)≤(a:Int))&&decide ((G5 p.code B).op≠29)))):=by
  rw [←hbE];unfold B9k;simp only [Int.toNat_natCast,ho]
 have Y:=hpl (B:Int)
 have l:=A1M p.regs.toNat i a B s
 have q:=A7h p.regs.toNat i a B s
 generalize G5 p.code B=ib at*
 simp -implicitDefEqProofs only [go_sem,w0,w1,H,hnlz,htr,T,W,V,Option.some.injEq,forall_eq']
 refine Y _ _ _ 1 _ ?_ (190*10000+5) ?_ ?_ ?_ ?_
 ·simp -implicitDefEqProofs only [go_sem,hps,hsb,hsm,A4s]
  exact hMS.symm
 ·exact Xt
 ·exact Xt
 ·exact Xt
 intro st P hn'
 have A:Pure Tryz.prog 38 [.isl ((I7 i s.marks).map zrw),.isl (o.marks.map zrw)] (.bool (decide (I7 i s.marks=o.marks))):=C4D _ _ (by have:=A9X i s.marks;omega)
 have E:=W9 C7 (I7 i s.marks)
 have C:=W9 C7 o.marks
 by_cases K:(C6 i).2=o.opn
 case neg=>
  have F:R (B:Int)=true:=by rw [D];simp [K]
  rw [K4 w F]at G
  refine Jb ?_
  subst G
  exact .to (r2:= .bool _) (n2:=P+1) ⟨rfl,rfl⟩ (.sub ze)
 by_cases O:I7 i s.marks=o.marks
 case neg=>
  have F:R (B:Int)=true:=by rw [D];simp [O]
  rw [K4 w F]at G
  refine Jb ?_
  refine A0.pureF A Qu ?_
  simp -implicitDefEqProofs only [go_sem,O]
  subst G
  exact .to (r2:= .bool _) (n2:=P+1) ⟨rfl,rfl⟩ (.sub ze)
 by_cases N:(B:Int)≤(a:Int)∧ib.op≠29
 case pos=>
  have F:R (B:Int)=true:=by rw [D];simp [N.1,N.2]
  have e31:=N.1
  have e32:=N.2
  rw [K4 w F]at G
  refine Jb ?_
  refine A0.pureF A Qu ?_
  simp -implicitDefEqProofs only [go_sem,O,e31,e32,W,V,J,l5,z5,I,hiB,Option.some.injEq,forall_eq']
  subst G
  exact⟨by omega,by omega,.to (r2:= .bool _) (n2:=P+1) ⟨rfl,rfl⟩ (.sub ze)⟩
 have F:R (B:Int)=false:=by rw [D];simp [K,O];intro h;by_cases c:ib.op=29;exact c;exact absurd ⟨by omega,c⟩ N
 by_cases e4:(B:Int)≤(a:Int)
 ·have e5:ib.op=29:=by by_cases c:ib.op=29;exact c;exact absurd ⟨e4,c⟩ N
  refine Jb ?_
  refine A0.pureF A Qu ?_
  simp -implicitDefEqProofs only [go_sem,O,e4,e5,W,V,J,l5,z5,I,hiB,Option.some.injEq,forall_eq']
  refine⟨by omega,by omega,⟨by omega,by omega⟩,ih _ (k+1,P+1) ⟨by simp only;omega,E8 y w F⟩ zg (C1.wk (C1.of zp (fun e f=>by
   simp only [List.mem_cons,Ins.row]at f⊢
   rcases f with h|h|h|h|h|h|h<;>simp only [h,eq_self,true_or,or_true]) (Nat.le_refl _)))⟩
 ·refine Jb ?_
  refine A0.pureF A Qu ?_
  simp -implicitDefEqProofs only [go_sem,O,e4]
  refine⟨⟨by omega,by omega⟩,ih _ (k+1,P+1) ⟨by simp only;omega,E8 y w F⟩ zg (C1.wk (C1.of zp (fun e f=>by
   simp only [List.mem_cons,Ins.row]at f⊢
   rcases f with h|h|h|h|h|h|h<;>simp only [h,eq_self,true_or,or_true]) (Nat.le_refl _)))⟩
-- EV: Ins.v, Ins.row
theorem B7K(p:Fn)(C:Sound p)(M:Nat→Option Stt)(L:List Nat)(B:Kn p.regs.toNat p.code.length L M)(hS:A0T p.regs.toNat p.code p.params M)(a:Nat)(T:a<p.code.length)(H j n:Nat)(hb:H=(110*10000+14)):
  A0 Tryz.prog 112 [.agg p.row,.int .i64 a,.mp H j] [(H,j,.map (Q7 L (n7 p.regs.toNat M)))] n fun r E n'=>r= .bool (A3x p M a)∧E= [(H,j,.map (Q7 L (n7 p.regs.toNat M)))]:=by
 subst hb
 obtain⟨I,N⟩:=B4 p
 have V:=C.regs
 have hcl:=C.code
 have y: ∀z:Int,A5X (.int .i64 z) (Q7 L (n7 p.regs.toNat M))=True:=fun z=>eq_true ((B3K _ _).ok z)
 have D:p.row[5]? =some (.isl (p.code.map Ins.row)):=by rw [Fn.row_eq];rfl
 have W:(p.code.map Ins.row).length=p.code.length:=List.length_map ..
 have z5:=eq_true (B3 Ins.row 5 (fun _=>rfl) p.code)
 have r5: ∀(k:Nat) x,p.code[k]? =some x→(p.code.map Ins.row)[k]? =some (Ins.row x):=fun k x hk=>by rw [List.getElem?_map,hk];rfl
 obtain⟨hi,P⟩:=A3D T
 have G:=r5 a _ hi
 cases hMa:M a with
 |none=>
  have hv:A3x p M a=false:=by unfold A3x;rw [hMa]
  have t:=B9O (F:=n7 p.regs.toNat M) (B.no hMa)
  rw [hv]
  generalize Q7 L (n7 p.regs.toNat M)=Y at*
  generalize p.row=pr at*
  refine A0.enterK A1H Jk fun Q b=>Run.go 100 ?_
  simp -implicitDefEqProofs only [go_sem,A4,t,y,I]
  subst b
  exact .to (r2:= .bool _) (n2:=n+1+1) ⟨rfl,rfl⟩ (.sub ze)
 | some s=>
  have t:u7 (.int .i64 (a:Nat)) (Q7 L (n7 p.regs.toNat M))=some (A4s (.isl (B0 p.regs.toNat s.set)) s):=by
   rw [B2C (B.yes hMa)];simp only [n7,hMa]
  have hia:=G
  have q0:((a:Int)<(p.code.length:Int))=True:=Ji
  have q1:((0:Int)≤(a:Int))=True:=Ji
  have K:=A4Z (G5 p.code a)
  have A:=C2S p C _ P s (by have:=hS.opn C.fit a s hMa;omega)
  have hnx:=A1L p.code a zd
  have u:=fun m Q b=>C7L p C M L B hS a T s hMa n j m Q b
  have hll:=B.len
  have hml:=B.ml a s hMa
  have v: ∀h,A2.get h (112*10000+9) (n+1+1)=some (.rows 5 [(G5 p.code a).row])→ ∀n2,A0 Tryz.prog 131 [.isl (s.marks.map zrw),.fn 156 [.ptr (112*10000+9) (n+1+1) 0 0]] h n2 fun r E n'=>r= .bool (s.marks.any fun z=>decide ((G5 p.code a).a≤z))∧E=h:=
   fun h hh n2=>A2w s.marks zd (fun z=>decide ((G5 p.code a).a≤z)) 156 [.ptr (112*10000+9) (n+1+1) 0 0] h zj (fun x hx m=>C5L _ x (n+1+1) h m hh) n2
  generalize hes:Q7 L (n7 p.regs.toNat M)=Y at*
  generalize U:G5 p.code a=i at*
  generalize hCR:p.code.map Ins.row=CR at*
  have hps:=fun d h=>(G8 (d:=d) (h:=h)).elim fun φ e=>show p.row.map (frz d h)=p.row by rw [e];exact Fn.row_sub φ p
  generalize hpr:p.row=pr at*
  have S:A3x p M a=(V9 i.op&&decide ((a:Int)=(p.code.length:Int)-1)||(!A6v p i s||(decide (i.op=28)&&s.marks.any (fun r=>decide (i.a≤r))||(decide (i.op=17)&&decide (0<s.marks.length)||(C5 p.code a).any (B9k p.code M a i s))))):=by
   unfold A3x;simp only [hMa,U]
  rw [S]
  refine A0.enterK A1H Jk fun Q b=>Run.go 15 ?_
  simp -implicitDefEqProofs only [go_sem,A4,t,y,A4s,I,N,D,W,z5,q0,q1,G,T,Option.some.injEq,forall_eq']
  refine A0.pureF K ze ?_
  rw [show i.v= .agg [.int .i64 i.op,.int .i64 i.a,.int .i64 i.b,.int .i64 i.c,.int .i64 i.d] from rfl]at A
  obtain⟨J,o⟩: ∃J:A2,([((112*10000+9),n+1+1,.rows 5 [[.int .i64 i.op,.int .i64 i.a,.int .i64 i.b,.int .i64 i.c,.int .i64 i.d]]),((112*10000+7),n+1,.rows 3 [[.isl (B0 p.regs.toNat s.set),.int .i64 s.opn,.isl (s.marks.map zrw)]]),((112*10000+3),n,.rows 11 [pr]),((110*10000+14),j,.map Y)]:A2)=J:=⟨_,rfl⟩
  generalize O:(decide ((a:Int)=(p.code.length:Int)-1))=d1 at*
  generalize V9 i.op=Z at*
  simp -implicitDefEqProofs only [go_sem,I,N,D,W]
  refine Run.two (s0:=⟨[(26,.bool (Z&&d1)),(9,.ptr (112*10000+9) (n+1+1) 0 0),(7,.ptr (112*10000+7) (n+1) 0 0),(3,.ptr (112*10000+3) n 0 0),(2,.mp (110*10000+14) j),(1,.int .i64 a)],J,n+1+1+1⟩)
   (fun h=>⟨?_,?_⟩) (fun h=> ?_) ?_
  ·omega
  ·exact C1.wk (C1.of (by simp -implicitDefEqProofs only [go_sem,h,O]) (fun e g=>by rw [←o]at g;exact g) (Nat.le_refl _))
  ·exact C1.wk (C1.of zC (fun e g=>by rw [←o]at g;exact g) (Nat.le_refl _))
  cases hv1:(Z&&d1)with
  |true=>
   refine Run.go 100 ?_
   refine QL ?_
   rw [hv1]at b
   subst b
   exact .to (r2:= .bool _) (n2:=n+1+1+1) ⟨rfl,rfl⟩ (o ▸ .sub ze)
  |false=>
  refine Run.go 12 ?_
  rw [←o]
  simp -implicitDefEqProofs only [go_sem,I,N]
  refine A0.at [] [0,1,2,3] (A _) rfl rfl ?_
  rintro r E n2 hn2 ⟨rfl,rfl⟩
  rw [hv1,Bool.false_or]at b
  cases hrf:A6v p i s with
  |false=>
   rw [hrf]at b
   exact YQ
  |true=>
  rw [hrf,Bool.not_true,Bool.false_or]at b
  by_cases c:i.op=28
  ·have f: ¬i.op=17:=by omega
   have l:decide (i.op=28)=true:=decide_eq_true c
   have q:decide (i.op=17)=false:=decide_eq_false f
   rw [l,q,Bool.true_and,Bool.false_and,Bool.false_or]at b
   refine QO ?_
   refine(v _ ?_ _).mono ?_
   ·simp -implicitDefEqProofs only [go_sem,Ins.row,c]
   rintro r E X ⟨rfl,rfl⟩
   cases han:s.marks.any (fun z=>decide (i.a≤z))with
   |true=>
    rw [han]at b
    refine QL ?_
    subst b
    exact .to (r2:= .bool _) (n2:=X) ⟨rfl,rfl⟩ (.sub ze)
   |false=>
    rw [han,Bool.false_or]at b
    refine QO ?_
    refine Run.wk ?_ (u X Q b)
    exact XM
  ·have l:decide (i.op=28)=false:=decide_eq_false c
   by_cases f:i.op=17
   ·have q:decide (i.op=17)=true:=decide_eq_true f
    by_cases cl:0<s.marks.length
    ·have R:decide (0<s.marks.length)=true:=decide_eq_true cl
     have w:((0:Int)<(s.marks.length:Int))=True:=Ji
     rw [l,q,R]at b
     simp -implicitDefEqProofs only [go_sem,c,f,w]
     refine Run.go 100 ?_
     exact YQ
    ·have R:decide (0<s.marks.length)=false:=decide_eq_false cl
     have w:((0:Int)<(s.marks.length:Int))=False:=Jj
     rw [l,q,R]at b
     simp -implicitDefEqProofs only [go_sem,c,f,w]
     refine Run.wk ?_ (u n2 Q b)
     exact XM
   ·have q:decide (i.op=17)=false:=decide_eq_false f
    rw [l,q]at b
    simp -implicitDefEqProofs only [go_sem,c,f]
    refine Run.wk ?_ (u n2 Q b)
    exact XM
end Go.Proofs.YtcaaenddpjepiaaGreatDoor
