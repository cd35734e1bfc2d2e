/-
 The scanner of listing.Parse: quoted. No condition.
-/
import Derived.Test.YtflobbpcabopjaaGreatDoorLpC
set_option linter.unusedVariables false set_option linter.unusedSimpArgs false set_option maxRecDepth 100000
set_option maxHeartbeats 0
namespace Go.Proofs.YtflobbpcabopjaaGreatDoor
open Go Go.Abs
attribute [local irreducible] A0 Run
theorem B0D{b st:Nat}{l:List UInt8}{h:A2}(hb:bH b st l h){x:Nat}(h1:b≠x)(h2:nWS≠x)(h3:nWB≠x):B4 h x:=by
 exact Xr
abbrev nQd:Nat:=(98*10000+3)
-- EV: nQd
attribute [local go_sem] nQd
def D2P(s:List UInt8)(i:Nat)(l:List UInt8):Prop:=(D9 (s.drop 1)).1=l++(D9 (s.drop i)).1∧1+(D9 (s.drop 1)).2=i+(D9 (s.drop i)).2∧l.length<i∧1≤i∧i≤s.length+1
theorem A5T{s:List UInt8}{i:Nat}{l:List UInt8}{d:UInt8}{m:Nat}(h:D2P s i l)(hi:i+m≤s.length)(hm:1≤m)(hs:D9 (s.drop i)=(d::(D9 (s.drop (i+m))).1,(D9 (s.drop (i+m))).2+m)):D2P s (i+m) (l++ [d]):=by
 obtain⟨h1,h2,h3,h4,h5⟩:=h
 rw [hs]at h1 h2
 simp only at h1 h2
 refine⟨by rw [h1,List.append_assoc];rfl,by omega,by rw [List.length_append,List.length_singleton];omega,by omega,by omega⟩
theorem B1H{s:List UInt8}{i:Nat}{c:UInt8}(hc:s[i]? =some c):s.drop i=c::s.drop (i+1):=by
 obtain⟨h,rfl⟩:=List.getElem?_eq_some_iff.1 hc
 exact List.drop_eq_getElem_cons h
theorem D5F(z:Int):IntKind.u8.wrap z=((UInt8.ofNat (z%256).toNat).toNat:Int):=by
 have h1:(UInt8.ofNat (z%256).toNat).toNat=(z%256).toNat:=UInt8.toNat_ofNat_of_lt' (show (z%256).toNat<256 by omega)
 rw [h1]
 simp [IntKind.wrap,IntKind.signed,IntKind.bits]
 omega
theorem C5Q(w:List UInt8): ∃z,A2X w= .tup [.int .i64 (atN w),z]∧(z= .cst .nilIface∨z= .err):=by
 unfold A2X atN
 cases Lib.atoiAll w with
 |ok n=>exact⟨_,rfl,.inl rfl⟩
 |range=>exact⟨_,rfl,.inr rfl⟩
 |_=>exact⟨_,rfl,.inr rfl⟩
theorem c34:((((34:UInt8).toNat:Nat):Int)=34)=True:=eq_true rfl
theorem c92:((((92:UInt8).toNat:Nat):Int)=92)=True:=eq_true rfl
theorem A4z(b st n:Nat)(hb1:b≠nWS)(hb2:b≠nWB)(hb3:b≠nQd)(x:Sc)(hB:x.s.length≤100000):
  A0 Tryz.prog 98 [.ptr b st 0 0] (scH b st x) n (fun r h' _=>r= .str x.q∧h'=scH b st x.quoted):=by
 have htk:=fun k hk n=>B7H b st n x k hk hB
 obtain⟨s,ok⟩:=x
 unfold scH at*
 simp only at*
 have q1:(b=nQd)=False:=eq_false hb3
 have q2:(nQd=b)=False:=eq_false (Ne.symm hb3)
 have x1:=A4F hb3
 have x2:=A4F (Ne.symm hb3)
 refine A0.enterK X5 Jo fun Q hQ=>Run.go 100 ?_
 simp -implicitDefEqProofs only [go_sem,A3,q1,q2]
 refine Run.roundsK (fun(y:Nat×List UInt8×A2×Nat)=>⟨[(4,.int .i64 y.1),(3,.ptr nQd n 0 0),(0,.ptr b st 0 0)],(b,st,.rows 2 [[.str s,.bool ok]])::y.2.2.1,y.2.2.2⟩) (fun y=>D2P s y.1 y.2.1∧bH nQd n y.2.1 y.2.2.1∧(y.2.1= []→y.2.2.1= [(nQd,n,.tb tB 2 [[.nilp,.nils]])])) (fun y=>s.length+1-y.1) (1,[],[(nQd,n,.tb tB 2 [[.nilp,.nils]])],n+1) (E8.wk ⟨B0.1 ze,fun e he=> ?_,Nat.le_refl _⟩) ⟨⟨rfl,rfl,by simp,by simp,by simp⟩,⟨.nilp,.inl rfl,.inl ⟨rfl,rfl⟩⟩,fun _=>rfl⟩ ?_
 ·rcases List.mem_cons.1 he with rfl|he
  ·exact List.mem_cons_of_mem _ (List.mem_singleton.2 rfl)
  ·rw [List.mem_singleton.1 he];exact List.mem_cons_self
 rintro⟨i,l,hb,m⟩ ⟨hq,hbH,hb0⟩ ih
 simp only at hq hbH hb0 ih⊢
 refine Run.unf A2g (Run.go 100 ?_)
 have a0:=B0D hbH (x:=b) (Ne.symm hb3) (Ne.symm hb1) (Ne.symm hb2)
 have c0:=a0.del
 obtain⟨g1,g2,g3,g4,g5⟩:=id hq
 have p0:((0:Int)≤(i:Int))=True:=Jm
 have wr: ∀(c:UInt8) (k:Res),(∀hb' m',bH nQd n (l++ [c]) hb'→k (.cst .nilIface) ((b,st,.rows 2 [[.str s,.bool ok]])::hb') m')→l.length+1≤137438953472→A0 Tryz.prog 24 [.ptr nQd n 0 0,.int .u8 c.toNat] ((b,st,.rows 2 [[.str s,.bool ok]])::hb) m k:=by
  intro c k hk hl
  refine A0.use (rest:= [_]) (A9t nQd n zf zf l c hl hb hbH m) rfl (fun e he e' he'=> ?_) ?_
  ·exact Kq
  rintro r hb' m' hm' ⟨rfl,hb2⟩
  exact hk hb' m' hb2
 have pB: ∀{y:Sc} {r:List UInt8} {h':A2} {m:Nat},(Sc.mk s ok).q=r→(Sc.mk s ok).quoted=y→P2 Q (.str r) ((b,st,.rows 2 [[.str y.s,.bool y.ok]])::h') m:=by
  rintro y r h' m rfl rfl
  subst hQ
  exact .to ⟨rfl,rfl⟩ (.sub (C0.2 fun e he=>by rw [List.mem_singleton.1 he];exact List.mem_cons_self))
 have pBad:(Sc.mk s ok).qBad=true→ ∀{h':A2} {m:Nat},P2 Q (.str []) ((b,st,.rows 2 [[.str s,.bool false]])::h') m:=by
  intro hb h' m
  exact pB (y:=⟨s,false⟩) (by unfold Sc.q;rw [if_pos hb]) (by unfold Sc.quoted;rw [if_pos hb])
 by_cases hlt:i<s.length
 rotate_left
 ·have p1:((i:Int)<(s.length:Int))=False:=Jn
  have p1b:((s.length:Int)≤(i:Int))=True:=Jm
  have hs:D9 (s.drop i)=([],0):=by rw [List.drop_eq_nil_of_le zd];rfl
  rw [hs]at g2
  have hbad:(Sc.mk s ok).qBad=true:=by
   unfold Sc.qBad
   rw [Bool.or_eq_true,Bool.or_eq_true,decide_eq_true_iff]
   exact .inl (.inl (by simp only at g2⊢;omega))
  simp -implicitDefEqProofs only [go_sem,p1,p1b,c0]
  try exact pBad hbad
  try exact⟨pBad hbad,pBad hbad⟩
 have p1:((i:Int)<(s.length:Int))=True:=Jm
 have p1b:((s.length:Int)≤(i:Int))=False:=Jn
 obtain⟨c,hc⟩: ∃c,s[i]? =some c:=⟨s[i],by simp [hlt]⟩
 have hd:=B1H hc
 by_cases h34:c=34
 ·subst h34
  have hs:D9 (s.drop i)=([],0):=by rw [hd,D9.eq_def];simp
  rw [hs,List.append_nil]at g1
  rw [hs]at g2
  simp only at g1 g2
  obtain⟨d,hd0⟩: ∃d,s[0]? =some d:=⟨s[0],by simp⟩
  by_cases hd34:d=34
  rotate_left
  ·have p4:((d.toNat:Int)=34)=False:=eq_false (fun h=>hd34 (UInt8.toNat_inj.1 (by show d.toNat=34;omega)))
   have hbad:(Sc.mk s ok).qBad=true:=by
    unfold Sc.qBad
    rw [Bool.or_eq_true,Bool.or_eq_true,decide_eq_true_iff,decide_eq_true_iff]
    exact .inl (.inr (by simp only;rw [hd0];simpa using hd34))
   simp -implicitDefEqProofs only [go_sem,p0,p1,p1b,hc,c0,c34,hd0,p4]
   try exact pBad hbad
   try exact⟨pBad hbad,pBad hbad⟩
  subst hd34
  have p6:((0:Int)≤(i:Int)+1∧(i:Int)+1≤(s.length:Int))=True:=Jm
  have hlen:l.length≤100000:=by omega
  have st1: ∀(k:Res),(∀hb' m',bHf nQd n l hb'→k (.str l) ((b,st,.rows 2 [[.str s,.bool ok]])::hb') m')→A0 Tryz.prog 25 [.ptr nQd n 0 0] ((b,st,.rows 2 [[.str s,.bool ok]])::hb) m k:=by
   intro k hk
   refine A0.use (rest:= [_]) (D7v nQd n m zf zf l hb hlen hbH hb0) rfl (fun e he e' he'=> ?_) ?_
   ·exact Kq
   rintro r hb' m' hm' ⟨rfl,hb2⟩
   exact hk hb' m' hb2
  have take0':(s.take ((i:Int)+1-0).toNat)=s.take (i+1):=by rw [show ((i:Int)+1-0).toNat=i+1 by omega]
  have htk1: ∀n:Nat,A0 Tryz.prog 153 [.ptr b st 0 0,.int .i64 ((i:Int)+1)] [(b,st,.rows 2 [[.str s,.bool ok]])] n (fun r h' _=>r= .str (s.take (i+1))∧h'= [(b,st,.rows 2 [[.str ((Sc.mk s ok).take (i+1)).s,.bool ((Sc.mk s ok).take (i+1)).ok]])]):=by
   intro n
   rw [show (i:Int)+1=((i+1:Nat):Int) by omega]
   exact htk (i+1) zd n
  have hqp:=A1C l zd
  have hsub:(s.take (i+1))=List.take ((i:Int)+1).toNat s:=by rw [show ((i:Int)+1).toNat=i+1 by omega]
  have hq2:(D9 (s.drop 1)).2=i-1:=by omega
  have hbq:(Sc.mk s ok).qBad=true↔D2 l≠s.take (i+1):=by
   unfold Sc.qBad
   simp only
   rw [hq2,hd0,g1,show i-1+2=i+1 by omega,decide_eq_false (show¬s.length≤1+(i-1) by omega)]
   simp
  simp -implicitDefEqProofs only [go_sem,p0,p1,p1b,hc,c0,c34,hd0,p6]
  refine⟨⟨by omega,by omega,by omega,st1 _ fun hb' m' hbf=> ?_⟩,⟨by omega,st1 _ fun hb' m' hbf=> ?_⟩,by omega,st1 _ fun hb' m' hbf=> ?_⟩
  all_goals
   have c1:=(C5R hbf (x:=b) (Ne.symm hb3) (Ne.symm hb1) (Ne.symm hb2)).del
   simp -implicitDefEqProofs only [go_sem,c1]
   try refine⟨by omega,by omega,?_⟩
   refine A0.pureF hqp rfl ?_
   simp -implicitDefEqProofs only [go_sem,c1]
   try refine⟨by omega,by omega,?_⟩
   refine⟨fun hne=>pBad (hbq.2 (by rw [take0']at hne;exact hne)),fun heq=>⟨by omega,?_⟩⟩
   rw [take0']at heq
   have hnb: ¬(Sc.mk s ok).qBad=true:=fun h=>hbq.1 h heq
   have a1:=C5R hbf (x:=b) (Ne.symm hb3) (Ne.symm hb1) (Ne.symm hb2)
   refine A0.frame (rest:=hb') (htk1 _) (fun e he=>by rw [List.mem_singleton.1 he];exact List.mem_cons_self) (fun e he=>⟨List.mem_cons_of_mem _ he,fun e' he'=>by rw [List.mem_singleton.1 he'];exact Ne.symm (a1 e he)⟩) ?_
   rintro r h' n' hn' ⟨rfl,rfl⟩
   rw [List.singleton_append]
   refine QE ?_
   refine A0.use (rest:= [_]) (D7w nQd n _ l hb' hlen hbf) rfl (fun e he e' he'=> ?_) ?_
   ·rw [List.mem_singleton.1 he]
    exact a1 e' he'
   rintro r h2 n2 hn2 rfl
   refine Qy ?_
   exact pB (y:=(Sc.mk s ok).take (i+1)) (by unfold Sc.q;rw [if_neg hnb];exact g1) (by unfold Sc.quoted;rw [if_neg hnb];simp only;rw [hq2,show i-1+2=i+1 by omega])
 have p2:((c.toNat:Int)=34)=False:=eq_false (fun h=>h34 (UInt8.toNat_inj.1 (by show c.toNat=34;omega)))
 by_cases h92:c=92
 rotate_left
 ·have p3:((c.toNat:Int)=92)=False:=eq_false (fun h=>h92 (UInt8.toNat_inj.1 (by show c.toNat=92;omega)))
  have hs:D9 (s.drop i)=(c::(D9 (s.drop (i+1))).1,(D9 (s.drop (i+1))).2+1):=by
   rw [hd,D9.eq_def]
   simp only
   rw [if_neg h34,if_neg h92]
  simp -implicitDefEqProofs only [go_sem,p0,p1,p2,p3,hc,c0]
  refine⟨by omega,wr c _ (fun hb' m' hbH'=> ?_) zd⟩
  have c1:=(B0D hbH' (x:=b) (Ne.symm hb3) (Ne.symm hb1) (Ne.symm hb2)).del
  refine QE ?_
  exact ih _ (i+1,l++ [c],hb',m') ⟨A5T hq zd (Nat.le_refl _) hs,hbH',fun h=>absurd h zg⟩ zj (E8.wk ⟨B0.1 (by simp -implicitDefEqProofs only [go_sem,Int.natCast_add,Int.cast_ofNat_Int]),fun _ h=>h,Nat.le_refl _⟩)
 subst h92
 have hn92: ¬(92:UInt8)=34:=by decide
 have hi1:((i:Int)+1).toNat=i+1:=by omega
 by_cases hl1:i+1<s.length
 rotate_left
 ·have p5:((i:Int)+1<(s.length:Int))=False:=Jn
  have hs:D9 (s.drop i)=(92::(D9 (s.drop (i+1))).1,(D9 (s.drop (i+1))).2+1):=by
   rw [hd,List.drop_eq_nil_of_le (show s.length≤i+1 by omega),D9.eq_def]
   simp only
   rw [if_neg hn92,if_pos trivial]
   rfl
  simp -implicitDefEqProofs only [go_sem,p0,p1,p2,p5,hc,c0,c92]
  refine⟨by omega,wr 92 _ (fun hb' m' hbH'=> ?_) zd⟩
  have c1:=(B0D hbH' (x:=b) (Ne.symm hb3) (Ne.symm hb1) (Ne.symm hb2)).del
  refine QE ?_
  exact ih _ (i+1,l++ [92],hb',m') ⟨A5T hq zd (Nat.le_refl _) hs,hbH',fun h=>absurd h zg⟩ zj (E8.wk ⟨B0.1 (by simp -implicitDefEqProofs only [go_sem,Int.natCast_add,Int.cast_ofNat_Int]),fun _ h=>h,Nat.le_refl _⟩)
 have p5:((i:Int)+1<(s.length:Int))=True:=Jm
 have p6:((0:Int)≤(i:Int)+1)=True:=Jm
 obtain⟨e,he⟩: ∃e,s[i+1]? =some e:=⟨s[i+1],by simp [hl1]⟩
 have he':s[((i:Int)+1).toNat]? =some e:=by rw [hi1];exact he
 have hd1:=B1H he
 have hlet:=B9O e
 simp -implicitDefEqProofs only [go_sem,p0,p1,p2,p5,p6,hc,he',c0,c92]
 refine⟨by omega,A0.pureF hlet rfl ?_⟩
 have z2:((i+2:Nat):Int)=(i:Int)+1+1:=by omega
 have z4:((i+4:Nat):Int)=(i:Int)+1+1+2:=by omega
 generalize hdd:A1N e=d
 by_cases hD:48≤d.toNat∧d.toNat≤57
 rotate_left
 ·have hs:D9 (s.drop i)=(d::(D9 (s.drop (i+2))).1,(D9 (s.drop (i+2))).2+2):=by
   rw [hd,hd1,←hdd]
   exact A9l rfl (by rw [hdd];exact hD) _
  by_cases hD1:48≤d.toNat
  ·have f1:((48:Int)≤(d.toNat:Int))=True:=Jm
   have f2:((d.toNat:Int)≤57)=False:=Jn
   simp -implicitDefEqProofs only [go_sem,f1,f2,c0]
   refine⟨by omega,wr d _ (fun hb' m' hbH'=> ?_) zd⟩
   exact JI
  ·have f1:((48:Int)≤(d.toNat:Int))=False:=Jn
   simp -implicitDefEqProofs only [go_sem,f1,c0]
   refine⟨by omega,wr d _ (fun hb' m' hbH'=> ?_) zd⟩
   exact JI
 have f1:((48:Int)≤(d.toNat:Int))=True:=Jm
 have f2:((d.toNat:Int)≤57)=True:=Jm
 by_cases h4:i+4≤s.length
 rotate_left
 ·have f4:((i:Int)+1+1+2≤(s.length:Int))=False:=Jn
  have hs:D9 (s.drop i)=(d::(D9 (s.drop (i+2))).1,(D9 (s.drop (i+2))).2+2):=by
   have hln:(s.drop (i+2)).length<2:=by rw [List.length_drop];omega
   rw [hd,hd1,D9.eq_def]
   simp only
   rw [if_neg hn92,if_pos trivial,hdd,if_pos hD]
   rw [show i+1+1=i+2 from rfl]
   generalize s.drop (i+2)=r at hln
   match r,hln with
   | [],_=>rfl
   | [a],_=>rfl
  simp -implicitDefEqProofs only [go_sem,f1,f2,f4,c0]
  refine⟨by omega,by omega,wr d _ (fun hb' m' hbH'=> ?_) zd⟩
  exact JI
 have f4:((i:Int)+1+1+2≤(s.length:Int))=True:=Jm
 obtain⟨a,ha⟩: ∃a,s[i+2]? =some a:=⟨s[i+2],by simp⟩
 obtain⟨a2,ha2⟩: ∃a2,s[i+3]? =some a2:=⟨s[i+3],by simp⟩
 have hd2:=B1H ha
 have hd3:=B1H ha2
 have hsl:List.take ((i:Int)+1+1+2-((i:Int)+1+1-1)).toNat (List.drop ((i:Int)+1+1-1).toNat s)= [e,a,a2]:=by
  have e1:((i:Int)+1+1+2-((i:Int)+1+1-1)).toNat=3:=by omega
  have e2:((i:Int)+1+1-1).toNat=i+1:=by omega
  rw [e1,e2,hd1,show i+1+1=i+2 from rfl,hd2,show i+2+1=i+3 from rfl,hd3]
  rfl
 have hs:D9 (s.drop i)=(UInt8.ofNat (atN [e,a,a2]%256).toNat::(D9 (s.drop (i+4))).1,(D9 (s.drop (i+4))).2+4):=by
  rw [hd,hd1,show i+1+1=i+2 from rfl,hd2,show i+2+1=i+3 from rfl,hd3,D9.eq_def]
  simp only
  rw [if_neg hn92,if_pos trivial,hdd,if_pos hD]
 obtain⟨z,hz,hzz⟩:=C5Q [e,a,a2]
 have hat:=A1y [e,a,a2] zg
 rw [hz]at hat
 have cv:=D5F (atN [e,a,a2])
 generalize UInt8.ofNat (atN [e,a,a2]%256).toNat=g at hs cv
 have fn: ∀(m:Nat) (k:Res),(∀z:V,(z= .cst .nilIface∨z= .err)→k (.tup [.int .i64 (atN [e,a,a2]),z]) ((b,st,.rows 2 [[.str s,.bool ok]])::hb) m)→A0 Tryz.prog 152 [.str [e,a,a2]] ((b,st,.rows 2 [[.str s,.bool ok]])::hb) m k:=fun m k hk=>A0.pureF hat rfl (hk z hzz)
 simp -implicitDefEqProofs only [go_sem,f1,f2,f4,c0,hsl]
 refine⟨by omega,by omega,by omega,by omega,by omega,by omega,fn _ _ fun z hzz=> ?_⟩
 rcases hzz with rfl|rfl
 all_goals
  simp -implicitDefEqProofs only [go_sem,cv,c0]
  refine⟨by omega,wr g _ (fun hb' m' hbH'=> ?_) zd⟩
  have c1:=(B0D hbH' (x:=b) (Ne.symm hb3) (Ne.symm hb1) (Ne.symm hb2)).del
  refine QE ?_
  exact ih _ (i+4,l++ [g],hb',m') ⟨A5T hq zd zd hs,hbH',fun h=>absurd h zg⟩ zj (E8.wk ⟨B0.1 (by simp -implicitDefEqProofs only [go_sem,z4]),fun _ h=>h,Nat.le_refl _⟩)
end Go.Proofs.YtflobbpcabopjaaGreatDoor
