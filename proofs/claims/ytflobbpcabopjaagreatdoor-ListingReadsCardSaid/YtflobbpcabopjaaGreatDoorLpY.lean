/-
 What listing.Parse makes of a text: the functions that are open, line by line. No program, no condition.
-/
import Derived.Test.YtflobbpcabopjaaGreatDoorLpV
set_option linter.unusedVariables false set_option linter.unusedSimpArgs false set_option maxRecDepth 100000
set_option maxHeartbeats 0
namespace Go.Proofs.YtflobbpcabopjaaGreatDoor
section
open Go Go.Abs
attribute [local irreducible] atN isN D9 d7 hOk hFn cOk B0F uOk B1k lOk A8n kOk A4J D4 S9
structure Nd where
 p:Fn
 path:List UInt8
 kind:Nat
 lined:Bool
def A2W(m q:Fn):Fn:={m with protos:=m.protos++ [q]}
def C5(d:Nat):List Nd→List Nd
 | []=> []
 | [n]=> [n]
 |n::m::r=>if d<r.length+2 then C5 d ({m with p:=A2W m.p n.p}::r)else n::m::r
termination_by l=>l.length
def A2z:List UInt8:= [109,97,105,110]
def A4Y(m:Nd):List UInt8:=m.path++46::Lib.itoa m.p.protos.length
def n6:List Nd→List (Nat×List UInt8)
 | []=> []
 |n::r=>n6 r++F4 n.path r.length n.p
def B1m:List Nd→Prop
 | []=>True
 | [n]=>n.path=A2z
 |n::m::r=>n.path=A4Y m∧B1m (m::r)
theorem C1n{n:Nd}{r:List Nd}(h:B1m (n::r)):B1m r:=by
 cases r with
 |nil=>trivial
 |cons m r=>exact h.2
theorem B4G{m m':Nd}{r:List Nd}(h:B1m (m::r))(hp:m'.path=m.path):B1m (m'::r):=by
 cases r with
 |nil=>exact hp.trans h
 |cons k r=>exact⟨hp.trans h.1,h.2⟩
theorem C1P(m q:Fn)(path:List UInt8)(d:Nat):F4 path d (A2W m q)=F4 path d m++F4 (path++46::Lib.itoa m.protos.length) (d+1) q:=by
 rw [I4,I4,show (A2W m q).protos=m.protos++ [q] from rfl,A1O,linesFs,linesFs,List.append_nil,Nat.zero_add]
 rw [List.append_assoc]
 rfl
theorem C0h{n m:Nd}{r:List Nd}(h:B1m (n::m::r)):n6 ({m with p:=A2W m.p n.p}::r)=n6 (n::m::r):=by
 have h1:n.path=m.path++46::Lib.itoa m.p.protos.length:=h.1
 simp only [n6]
 rw [C1P,h1,List.append_assoc]
 rfl
theorem C0D(d:Nat)(hd:1≤d): ∀(k:Nat) (st:List Nd),st.length≤k→d≤st.length→(C5 d st).length=d:=by
 intro k
 induction k with
 |zero=>intro st hk hs;omega
 | succ k ih=>
  intro st hk hs
  match st with
  | []=>simp at hs;omega
  | [n]=>rw [C5];simp at hs⊢;omega
  |n::m::r=>
   rw [C5]
   simp only [List.length_cons]at hk hs
   split
   ·exact ih _ zD zD
   ·simp only [List.length_cons];omega
theorem B5T(d:Nat): ∀(k:Nat) (st:List Nd),st.length≤k→B1m st→n6 (C5 d st)=n6 st∧B1m (C5 d st):=by
 intro k
 induction k with
 |zero=>intro st hk hc;have:=List.length_eq_zero_iff.1 (Nat.le_zero.1 hk);subst this;rw [C5];exact⟨rfl,hc⟩
 | succ k ih=>
  intro st hk hc
  match st with
  | []=>rw [C5];exact⟨rfl,hc⟩
  | [n]=>rw [C5];exact⟨rfl,hc⟩
  | n::m::r=>
   rw [C5]
   simp only [List.length_cons]at hk
   split
   ·obtain⟨h1,h2⟩:=ih ({m with p:=A2W m.p n.p}::r) zD (B4G (C1n hc) rfl)
    exact⟨h1.trans (C0h hc),h2⟩
   ·exact⟨rfl,hc⟩
theorem C5h(d e:Nat)(hde:d≤e): ∀(k:Nat) (st:List Nd),st.length≤k→C5 d (C5 e st)=C5 d st:=by
 intro k
 induction k with
 |zero=>intro st hk;have:=List.length_eq_zero_iff.1 (Nat.le_zero.1 hk);subst this;rw [C5]
 | succ k ih=>
  intro st hk
  match st with
  | []=>rw [C5]
  | [n]=>rw [C5]
  |n::m::r=>
   simp only [List.length_cons]at hk
   by_cases h:e<r.length+2
   ·rw [C5.eq_3 e n m r,if_pos h,ih _ zD,C5.eq_3 d n m r,if_pos zd]
   ·rw [C5.eq_3 e n m r,if_neg h]
theorem B8H{d:Nat}{st:List Nd}(h:st.length≤d):C5 d st=st:=by
 match st with
 | []=>rw [C5]
 | [n]=>rw [C5]
 |n::m::r=>
  rw [C5,if_neg]
  simp only [List.length_cons]at h
  omega
structure Top(n:Nd):Prop where
 protos:n.p.protos= []
 consts:n.kind<1→n.p.consts= []
 ups:n.kind<2→n.p.ups= []
 vars:n.kind<3→n.p.vars= []
 code:n.kind<4→n.p.code= []
 lines:if n.lined=true then n.p.lines.length=n.p.code.length else n.p.lines= []
def V6(F:List UInt8→Int×Int×Int)(G:List UInt8→Ins×Int)(n:Nd)(t:List UInt8):Option Nd:=
 if M6 t<n.kind then none
 else if M6 t=1 then(if cOk F n.p.consts.length t=true then some {n with p:={n.p with consts:=n.p.consts++ [B0F F n.p.consts.length t]},kind:=1}else none)
 else if M6 t=2 then(if uOk n.p.ups.length t=true then some {n with p:={n.p with ups:=n.p.ups++ [B1k n.p.ups.length t]},kind:=2}else none)
 else if M6 t=3 then(if lOk n.p.vars.length t=true then some {n with p:={n.p with vars:=n.p.vars++ [A8n n.p.vars.length t]},kind:=3}else none)
 else if kOk G n.p.code.length t=true∧(n.p.code.length=0∨D4 n.p.code.length t=n.lined)then
  some {n with p:={n.p with code:=n.p.code++ [A4J G n.p.code.length t],lines:=if D4 n.p.code.length t=true then n.p.lines++ [S9 n.p.code.length t]else n.p.lines},kind:=4,lined:=D4 n.p.code.length t}
 else none
theorem B5A{α:Type}{f g:Nat→α→List UInt8}{d:Nat}: ∀{l:List α} {i:Nat},(∀j x,i≤j→j<i+l.length→f j x=g j x)→C6 f d i l=C6 g d i l
 | [],i,_=>rfl
 |x::r,i,h=>by
  rw [C6,C6,h i x (Nat.le_refl _) zg,B5A (l:=r) (i:=i+1) fun j y h1 h2=>h j y zd (by rw [List.length_cons];omega)]
theorem A0z(p:Fn)(path:List UInt8)(d:Nat):B2o p path d=(d,G5 p path)::(C6 E6 (d+1) 0 p.consts++(C6 upT (d+1) 0 p.ups++(C6 O1 (d+1) 0 p.vars++C6 (I2 p.lines) (d+1) 0 p.code))):=rfl
theorem C3T{F:List UInt8→Int×Int×Int}{G:List UInt8→Ins×Int}(hne: ∀s,(G s).2=0→D3 (G s).1≠ []){n n':Nd}{t:List UInt8}(h:V6 F G n t=some n')(ht:Top n)(d:Nat):
  Top n'∧n'.path=n.path∧F4 n'.path d n'.p=F4 n.path d n.p++ [(d+1,t)]:=by
 unfold V6 at h
 split at h
 ·cases h
 rename_i hk
 have h0:=ht.protos
 split at h
 ·rename_i k1
  split at h
  ·rename_i ok
   injection h with h
   subst h
   have hc:t.take 6=O3++ [32]:=by
    unfold M6 at k1
    split at k1
    ·assumption
    ·split at k1
     ·omega
     ·split at k1<;>omega
   have e:=C1q hc ok
   have u:=ht.ups zd
   have v:=ht.vars zd
   have c:=ht.code zd
   refine⟨⟨h0,fun h=>by simp at h,fun _=>u,fun _=>v,fun _=>c,ht.lines⟩,rfl,?_⟩
   rw [I4,I4,A0z,A0z]
   simp only [h0,u,v,c,C6,linesFs,List.append_nil,A2Q,Nat.zero_add]
   rw [←e]
   rfl
  ·cases h
 split at h
 ·rename_i k1 k2
  split at h
  ·rename_i ok
   injection h with h
   subst h
   have hc:t.take 3=wUp++ [32]:=by
    exact YB
   have e:=(C3z hc ok).1
   have v:=ht.vars zd
   have c:=ht.code zd
   refine⟨⟨h0,fun h=>by simp at h,fun h=>by simp at h,fun _=>v,fun _=>c,ht.lines⟩,rfl,?_⟩
   rw [I4,I4,A0z,A0z]
   simp only [h0,v,c,C6,linesFs,List.append_nil,A2Q,Nat.zero_add]
   rw [←e]
   exact Ke
  ·cases h
 split at h
 ·rename_i k1 k2 k3
  split at h
  ·rename_i ok
   injection h with h
   subst h
   have hc:t.take 4=B6h++ [32]:=by
    exact Yi
   have e:=(C0Z hc ok).1
   have c:=ht.code zd
   refine⟨⟨h0,fun h=>by simp at h,fun h=>by simp at h,fun h=>by simp at h,fun _=>c,ht.lines⟩,rfl,?_⟩
   rw [I4,I4,A0z,A0z]
   simp only [h0,c,C6,linesFs,List.append_nil,A2Q,Nat.zero_add]
   rw [←e]
   exact Ke
  ·cases h
 split at h
 ·rename_i k1 k2 k3 ok
  injection h with h
  subst h
  obtain⟨e,_⟩:=B6H hne ok.1
  have hl:=ht.lines
  have key:(∀j,j<n.p.code.length→A9T (if D4 n.p.code.length t=true then n.p.lines++ [S9 n.p.code.length t]else n.p.lines) j=A9T n.p.lines j)∧
    A9T (if D4 n.p.code.length t=true then n.p.lines++ [S9 n.p.code.length t]else n.p.lines) n.p.code.length=A0i (D4 n.p.code.length t) (S9 n.p.code.length t)∧
    (if D4 n.p.code.length t=true then(if D4 n.p.code.length t=true then n.p.lines++ [S9 n.p.code.length t]else n.p.lines).length=n.p.code.length+1 else(if D4 n.p.code.length t=true then n.p.lines++ [S9 n.p.code.length t]else n.p.lines)= []):=by
   cases hb:D4 n.p.code.length t with
   | true=>
    have hn:n.p.lines.length=n.p.code.length:=by
     rcases ok.2 with h|h
     ·split at hl
      ·exact hl
      ·rw [hl];simp;omega
     ·rw [←h,hb,if_pos rfl]at hl
      exact hl
    simp only [if_true]
    refine⟨fun j hj=> ?_,?_,by rw [List.length_append,List.length_singleton,hn]⟩
    ·unfold A9T
     rw [if_neg zg,if_neg zd,List.getElem?_append_left zd]
    ·unfold A9T A0i
     rw [if_neg zg,←hn,if_pos rfl]
     simp
   | false=>
    have hn:n.p.lines= []:=by
     rcases ok.2 with h|h
     ·split at hl
      ·exact List.length_eq_zero_iff.1 zd
      ·exact hl
     ·rw [←h,hb,if_neg zf]at hl
      exact hl
    simp only [Bool.false_eq_true,if_false]
    refine⟨fun j _=>trivial,?_,hn⟩
    rw [hn]
    rfl
  obtain⟨y1,y2,y3⟩:=key
  refine⟨⟨h0,fun h=>by simp at h,fun h=>by simp at h,fun h=>by simp at h,fun h=>by simp at h,?_⟩,rfl,?_⟩
  ·simp only [List.length_append,List.length_singleton]
   exact y3
  ·rw [I4,I4,A0z,A0z]
   simp only [h0,linesFs,List.append_nil,A2Q,Nat.zero_add]
   have e2:I2 (if D4 n.p.code.length t=true then n.p.lines++ [S9 n.p.code.length t]else n.p.lines) n.p.code.length (A4J G n.p.code.length t)=t:=by
    unfold I2
    rw [y2]
    exact e.symm
   rw [e2,B5A (f:=I2 (if D4 n.p.code.length t=true then n.p.lines++ [S9 n.p.code.length t]else n.p.lines)) (g:=I2 n.p.lines) (fun j x _ hj=>by unfold I2;rw [y1 j zd])]
   exact Ke
 ·cases h
def spN:List UInt8→Nat
 | []=>0
 |c::r=>if c=32 then spN r+1 else 0
theorem C0O: ∀l:List UInt8,l=List.replicate (spN l) 32++l.drop (spN l)
 | []=>rfl
 | c::r=>by
  rw [spN]
  split
  ·rename_i h
   rw [List.replicate_succ,List.drop_succ_cons,List.cons_append,←C0O r,h]
  ·rfl
def S0(st:List Nd)(t:List UInt8)(d:Nat):Option (List Nd):=
 if d=0 then(if st= []∧hOk A2z t=true then some [⟨hFn A2z t,A2z,0,false⟩]else none)
 else if st.length<d then none
 else match C5 d st with
  | []=>none
  |m::r=>if hOk (A4Y m) t=true then some (⟨hFn (A4Y m) t,A4Y m,0,false⟩::m::r)else none
def P6(F:List UInt8→Int×Int×Int)(G:List UInt8→Ins×Int)(st:List Nd)(l:List UInt8):Option (List Nd):=
 if spN l%2≠0 then none
 else if (l.drop (spN l)).take 5=A3M++ [32]then S0 st (l.drop (spN l)) (spN l/2)
 else match st with
  | []=>none
  |n::r=>if spN l≠2*(r.length+1)then none else(V6 F G n (l.drop (spN l))).map fun n'=>n'::r
def C8s(st:List Nd):Prop:=B1m st∧ ∀n,st.head? =some n→Top n
theorem B8M(m:Nd):A4Y m≠ []:=by unfold A4Y;simp
theorem B5p{path t:List UInt8}(hp:path≠ [])(h:hOk path t=true)(d:Nat):F4 path d (hFn path t)= [(d,t)]∧Top ⟨hFn path t,path,0,false⟩:=by
 have e:=(B6Z hp h).1
 have f:(hFn path t).code= []∧(hFn path t).lines= []∧(hFn path t).consts= []∧(hFn path t).protos= []∧(hFn path t).ups= []∧(hFn path t).vars= []:=by
  unfold hFn
  exact⟨rfl,rfl,rfl,rfl,rfl,rfl⟩
 obtain⟨f1,f2,f3,f4,f5,f6⟩:=f
 refine⟨?_,⟨f4,fun _=>f3,fun _=>f5,fun _=>f6,fun _=>f1,by simp [f2]⟩⟩
 rw [I4,A0z,f1,f3,f4,f5,f6,←e]
 rfl
theorem C4H{F:List UInt8→Int×Int×Int}{G:List UInt8→Ins×Int}(hne: ∀s,(G s).2=0→D3 (G s).1≠ []){st st':List Nd}{l:List UInt8}(h:P6 F G st l=some st')(hf:C8s st):
  C8s st'∧ ∃e:Nat×List UInt8,n6 st'=n6 st++ [e]∧l++ [10]=T2 e:=by
 have hsp:=C0O l
 unfold P6 at h
 split at h
 ·cases h
 rename_i hev
 generalize hs:spN l=s at*
 generalize l.drop s=t at*
 split at h
 ·unfold S0 at h
  split at h
  ·rename_i hd0
   split at h
   ·rename_i hc
    injection h with h
    subst h
    obtain⟨rfl,ok⟩:=hc
    obtain⟨e1,e2⟩:=B5p zf ok 0
    refine⟨⟨rfl,fun n hn=>by injection hn with hn;subst hn;exact e2⟩,(0,t),by simp only [n6,List.nil_append,List.length_nil];exact e1,?_⟩
    rw [hsp,show s=0 by omega]
    rfl
   ·cases h
  ·rename_i hd0
   split at h
   ·cases h
   rename_i hlen
   obtain⟨o1,o2⟩:=B5T (s/2) _ st (Nat.le_refl _) hf.1
   have o3:=C0D (s/2) zd _ st (Nat.le_refl _) zd
   split at h
   ·cases h
   rename_i m r hsh
   rw [hsh]at o1 o2 o3
   split at h
   ·rename_i ok
    injection h with h
    subst h
    obtain⟨e1,e2⟩:=B5p (B8M m) ok (m::r).length
    refine⟨⟨⟨rfl,o2⟩,fun n hn=>by injection hn with hn;subst hn;exact e2⟩,((m::r).length,t),?_,?_⟩
    ·rw [show n6 (⟨hFn (A4Y m) t,A4Y m,0,false⟩::m::r)=n6 (m::r)++F4 (A4Y m) (m::r).length (hFn (A4Y m) t) from rfl,e1,o1]
    ·rw [hsp,o3]
     unfold T2
     rw [show 2*(s/2)=s by omega,List.append_assoc]
   ·cases h
 ·split at h
  ·cases h
  rename_i n r
  split at h
  ·cases h
  rename_i hd
  obtain⟨n',hb,h⟩:=Option.map_eq_some_iff.1 h
  subst h
  obtain⟨b1,b2,b3⟩:=C3T hne hb (hf.2 n rfl) r.length
  refine⟨⟨B4G hf.1 b2,fun x hx=>by injection hx with hx;subst hx;exact b1⟩,(r.length+1,t),?_,?_⟩
  ·simp only [n6]
   rw [b3,List.append_assoc]
  ·rw [hsp]
   unfold T2
   rw [show 2*(r.length+1)=s by omega,List.append_assoc]
def H9(F:List UInt8→Int×Int×Int)(G:List UInt8→Ins×Int):List Nd→List (List UInt8)→Option (List Nd)
 |st,[]=>some st
 |st,l::r=>(P6 F G st l).bind fun st'=>H9 F G st' r
theorem B5r{F:List UInt8→Int×Int×Int}{G:List UInt8→Ins×Int}(hne: ∀s,(G s).2=0→D3 (G s).1≠ []): ∀{ls:List (List UInt8)} {st st':List Nd},H9 F G st ls=some st'→C8s st→C8s st'∧(n6 st').flatMap T2=(n6 st).flatMap T2++ls.flatMap fun l=>l++ [10]
 | [],st,st',h,hf=>by
  injection h with h
  subst h
  exact⟨hf,by simp⟩
 |l::r,st,st',h,hf=>by
  rw [H9]at h
  obtain⟨s1,h1,h2⟩:=Option.bind_eq_some_iff.1 h
  obtain⟨f1,e,e1,e2⟩:=C4H hne h1 hf
  obtain⟨f2,e3⟩:=B5r hne h2 f1
  refine⟨f2,?_⟩
  rw [e3,e1,List.flatMap_append,List.flatMap_cons,List.flatMap_nil,List.append_nil,←e2,List.flatMap_cons,List.append_assoc]
theorem B8y{F:List UInt8→Int×Int×Int}{G:List UInt8→Ins×Int}(hne: ∀s,(G s).2=0→D3 (G s).1≠ []){ls:List (List UInt8)}{st:List Nd}{n:Nd}(h:H9 F G [] ls=some st)(hs:C5 1 st= [n]):N4 n.p=ls.flatMap fun l=>l++ [10]:=by
 obtain⟨f,e⟩:=B5r hne h ⟨trivial,fun n hn=>by cases hn⟩
 obtain⟨o1,o2⟩:=B5T 1 _ st (Nat.le_refl _) f.1
 rw [hs]at o1 o2
 have hp:n.path=A2z:=o2
 rw [←o1]at e
 simp only [n6,List.nil_append,List.length_nil,List.flatMap_nil]at e
 rw [hp]at e
 exact e
end
section
open Go Go.Abs
attribute [local irreducible] atN isN D9 d7 hOk hFn cOk B0F uOk B1k lOk A8n kOk A4J D4 S9
def N0(e:Nat×List UInt8):List UInt8:=List.replicate (2*e.1) 32++e.2
theorem C7S: ∀(k:Nat) {c:UInt8} {t:List UInt8},c≠32→spN (List.replicate k 32++c::t)=k
 |0,c,t,h=>by rw [List.replicate_zero,List.nil_append,spN,if_neg h]
 |k+1,c,t,h=>by rw [List.replicate_succ,List.cons_append,spN,if_pos rfl,C7S k h]
theorem A1B{F:List UInt8→Int×Int×Int}{G:List UInt8→Ins×Int}: ∀{a b:List (List UInt8)} {st s1:List Nd},H9 F G st a=some s1→H9 F G st (a++b)=H9 F G s1 b
 | [],b,st,s1,h=>by injection h with h;subst h;rfl
 |l::a,b,st,s1,h=>by
  rw [H9]at h
  obtain⟨s2,h1,h2⟩:=Option.bind_eq_some_iff.1 h
  rw [List.cons_append,H9,h1]
  exact A1B h2
theorem A9F{F:List UInt8→Int×Int×Int}{G:List UInt8→Ins×Int}{n n':Nd}{r:List Nd}{t:List UInt8}(hr:rkT t≠5)(hh: ∃c x,t=c::x∧c≠32)(hb:V6 F G n t=some n'):P6 F G (n::r) (N0 (r.length+1,t))=some (n'::r):=by
 obtain⟨c,x,rfl,hc⟩:=hh
 have hs:spN (N0 (r.length+1,c::x))=2*(r.length+1):=C7S _ hc
 have hd:(N0 (r.length+1,c::x)).drop (2*(r.length+1))=c::x:=by
  unfold N0
  have:(List.replicate (2*(r.length+1)) (32:UInt8)).length=2*(r.length+1):=List.length_replicate
  conv=>lhs;arg 1;rw [←this]
  exact List.drop_left
 unfold P6
 rw [hs,hd,if_neg zd,if_neg]
 ·simp only
  rw [if_neg zd,hb]
  rfl
 ·intro h
  rw [List.take_succ_cons]at h
  injection h with h _
  subst h
  exact hr rfl
def B8P(n:Nd)(v:Kst):Nd:={n with p:={n.p with consts:=n.p.consts++ [v]},kind:=1}
def B8R(n:Nd)(v:Upv):Nd:={n with p:={n.p with ups:=n.p.ups++ [v]},kind:=2}
def B8S(n:Nd)(v:Vr):Nd:={n with p:={n.p with vars:=n.p.vars++ [v]},kind:=3}
def B8Q(n:Nd)(y:Option Int×Ins):Nd:={n with p:={n.p with code:=n.p.code++ [y.2],lines:=n.p.lines++y.1.toList},kind:=4,lined:=y.1.isSome}
def fK(i:Nat)(y:Option Int×Ins):List UInt8:=F1 [Lib.itoa i,A0i y.1.isSome (y.1.getD 0),D3 y.2]
theorem C1p{F:List UInt8→Int×Int×Int}{G:List UInt8→Ins×Int}(hF: ∀p q,H1 p q=true→F (Z3 p q)=(p,q,0)){n:Nd}{v:Kst}(hk:n.kind≤1)(hn:n.p.consts.length≤1000000)(hv:I0 v=true):V6 F G n (E6 n.p.consts.length v)=some (B8P n v):=by
 have hb:M6 (E6 n.p.consts.length v)=1:=rfl
 obtain⟨h1,h2⟩:=C6i hF hn hv
 unfold V6
 rw [hb,if_neg zd,if_pos rfl,if_pos h1,h2]
 rfl
theorem D0a{F:List UInt8→Int×Int×Int}{G:List UInt8→Ins×Int}{n:Nd}{u:Upv}(hk:n.kind≤2)(hn:n.p.ups.length≤1000000)(hu:inB u.idx):V6 F G n (upT n.p.ups.length u)=some (B8R n u):=by
 have hb:M6 (upT n.p.ups.length u)=2:=by
  unfold M6
  rw [if_neg (fun h=>by injection h with h _;revert h;decide),if_pos (show (upT n.p.ups.length u).take 3=wUp++ [32] from rfl)]
 obtain⟨h1,h2⟩:=D6F hn hu
 unfold V6
 rw [hb,if_neg zd,if_neg zf,if_pos rfl,if_pos h1,h2]
 rfl
theorem C8l{F:List UInt8→Int×Int×Int}{G:List UInt8→Ins×Int}{n:Nd}{v:Vr}(hk:n.kind≤3)(hn:n.p.vars.length≤1000000)(h1:inB v.reg)(h2:inB v.lo)(h3:inB v.hi)(ha:0≤v.attr∧v.attr≤2):V6 F G n (O1 n.p.vars.length v)=some (B8S n v):=by
 have hb:M6 (O1 n.p.vars.length v)=3:=by
  rw [B3v]
  unfold M6
  rw [if_neg (fun h=>by injection h with h _;revert h;decide),if_neg (fun h=>by injection h with h _;revert h;decide),if_pos]
  rfl
 obtain⟨g1,g2⟩:=D3L hn h1 h2 h3 ha
 unfold V6
 rw [hb,if_neg zd,if_neg zf,if_neg zf,if_pos rfl,if_pos g1,g2]
 rfl
theorem B6I(i:Nat)(y:Option Int×Ins): ∃c x,fK i y=c::x∧(c.toNat=45∨(48≤c.toNat∧c.toNat≤57)):=by
 obtain⟨c,r,h1,h2⟩:=A5j (i:Int)
 exact⟨c,r++32::(A0i y.1.isSome (y.1.getD 0)++32::D3 y.2),by simp [fK,F1,h1],h2⟩
theorem C4a{F:List UInt8→Int×Int×Int}{G:List UInt8→Ins×Int}(hG: ∀x,chk x=0→G (D3 x)=(x,0)){n:Nd}{y:Option Int×Ins}(hk:n.kind≤4)(hn:n.p.code.length≤1000000)(hx:chk y.2=0)(hne:D3 y.2≠ [])(hz: ∀z,y.1=some z→inB z)
  (hl:n.p.code.length=0∨n.lined=y.1.isSome):V6 F G n (fK n.p.code.length y)=some (B8Q n y):=by
 obtain⟨c,x,e,hc⟩:=B6I n.p.code.length y
 have hb:M6 (fK n.p.code.length y)=4:=by
  unfold M6
  rw [e,if_neg,if_neg,if_neg]
  ·exact Ki
  ·exact Ki
  ·exact Ki
 obtain⟨g1,g2,g3,g4⟩:=C8I hG hn hx hne (b:=y.1.isSome) (z:=y.1.getD 0) (fun h=>by
  obtain⟨z,e⟩:=Option.isSome_iff_exists.1 h
  rw [e];exact hz z e)
 have g1:kOk G n.p.code.length (fK n.p.code.length y)=true:=g1
 have g2:D4 n.p.code.length (fK n.p.code.length y)=y.1.isSome:=g2
 have g3:y.1.isSome=true→S9 n.p.code.length (fK n.p.code.length y)=y.1.getD 0:=g3
 have g4:A4J G n.p.code.length (fK n.p.code.length y)=y.2:=g4
 unfold V6
 rw [hb,if_neg zd,if_neg zf,if_neg zf,if_neg zf,if_pos ⟨g1,by rw [g2];rcases hl with h|h;exact .inl h;exact .inr h.symm⟩,g2,g4]
 unfold B8Q
 congr 2
 congr 1
 cases ho:y.1 with
 |none=>simp
 |some z=>
  rw [ho]at g3
  rw [g3 rfl]
  simp
theorem B1Z{F:List UInt8→Int×Int×Int}{G:List UInt8→Ins×Int}{α:Type}{f:Nat→α→List UInt8}{upd:Nd→α→Nd}{P:Nd→Nat→Prop}{Q:α→Prop}(r:List Nd)(B:Nat)
  (step: ∀n i x,i<B→P n i→Q x→P6 F G (n::r) (N0 (r.length+1,f i x))=some (upd n x::r)∧P (upd n x) (i+1)):
  ∀(l:List α) (i:Nat) (n:Nd),i+l.length≤B→P n i→(∀x∈l,Q x)→H9 F G (n::r) ((C6 f (r.length+1) i l).map N0)=some (l.foldl upd n::r)∧P (l.foldl upd n) (i+l.length)
 | [],i,n,_,hp,_=>⟨rfl,hp⟩
 |x::l,i,n,hB,hp,hq=>by
  rw [List.length_cons]at hB
  obtain⟨h1,h2⟩:=step n i x zd hp (hq x List.mem_cons_self)
  obtain⟨h3,h4⟩:=B1Z r B step l (i+1) (upd n x) zd h2 fun y hy=>hq y (List.mem_cons_of_mem _ hy)
  rw [C6,List.map_cons,H9,h1]
  refine⟨h3,?_⟩
  rw [List.length_cons,show i+(l.length+1)=i+1+l.length by omega]
  exact h4
theorem C6v: ∀(l:List Kst) (n:Nd),(l.foldl B8P n).p={n.p with consts:=n.p.consts++l}∧(l.foldl B8P n).path=n.path∧(l.foldl B8P n).lined=n.lined
 | [],⟨⟨_,_,_,_,_,_,_,_,_,_,_⟩,_,_,_⟩=>by simp
 |v::l,n=>by
  obtain⟨h1,h2,h3⟩:=C6v l (B8P n v)
  rw [List.foldl_cons,h1,h2,h3]
  simp [B8P]
theorem C6x: ∀(l:List Upv) (n:Nd),(l.foldl B8R n).p={n.p with ups:=n.p.ups++l}∧(l.foldl B8R n).path=n.path∧(l.foldl B8R n).lined=n.lined
 | [],⟨⟨_,_,_,_,_,_,_,_,_,_,_⟩,_,_,_⟩=>by simp
 |v::l,n=>by
  obtain⟨h1,h2,h3⟩:=C6x l (B8R n v)
  rw [List.foldl_cons,h1,h2,h3]
  simp [B8R]
theorem C6y: ∀(l:List Vr) (n:Nd),(l.foldl B8S n).p={n.p with vars:=n.p.vars++l}∧(l.foldl B8S n).path=n.path∧(l.foldl B8S n).lined=n.lined
 | [],⟨⟨_,_,_,_,_,_,_,_,_,_,_⟩,_,_,_⟩=>by simp
 |v::l,n=>by
  obtain⟨h1,h2,h3⟩:=C6y l (B8S n v)
  rw [List.foldl_cons,h1,h2,h3]
  simp [B8S]
theorem C6w: ∀(l:List (Option Int×Ins)) (n:Nd),(l.foldl B8Q n).p={n.p with code:=n.p.code++l.map (·.2),lines:=n.p.lines++l.flatMap (fun y=>y.1.toList)}∧(l.foldl B8Q n).path=n.path
 | [],⟨⟨_,_,_,_,_,_,_,_,_,_,_⟩,_,_,_⟩=>by simp
 |v::l,n=>by
  obtain⟨h1,h2⟩:=C6w l (B8Q n v)
  rw [List.foldl_cons,h1,h2]
  simp [B8Q]
def B8X(ls:List Int)(code:List Ins):List (Option Int×Ins):=if ls.length=0 then code.map fun x=>(none,x)else(ls.zip code).map fun y=>(some y.1,y.2)
theorem C8o{ls:List Int}{code:List Ins}(h:ls.length=0∨ls.length=code.length):(B8X ls code).map (·.2)=code∧(B8X ls code).flatMap (fun y=>y.1.toList)=ls∧ ∀y∈B8X ls code,y.1.isSome=decide (ls.length≠0)∧y.2∈code∧ ∀z,y.1=some z→z∈ls:=by
 unfold B8X
 by_cases hl:ls.length=0
 ·rw [if_pos hl]
  refine⟨by simp [Function.comp_def],by rw [List.length_eq_zero_iff.1 hl];induction code<;>simp_all,fun y hy=> ?_⟩
  obtain⟨x,hx,rfl⟩:=List.mem_map.1 hy
  exact⟨by simp [hl],hx,fun z hz=>by cases hz⟩
 ·rw [if_neg hl]
  have hlc:ls.length=code.length:=by omega
  refine⟨?_,?_,fun y hy=> ?_⟩
  ·rw [List.map_map]
   exact List.map_snd_zip zd
  ·have:(((ls.zip code).map fun y=>(some y.1,y.2)):List (Option Int×Ins)).flatMap (fun y=>y.1.toList)=(ls.zip code).map (·.1):=by
    generalize ls.zip code=w
    induction w with
    |nil=>rfl
    |cons a w ih=>rw [List.map_cons,List.flatMap_cons,ih];rfl
   rw [this]
   exact List.map_fst_zip zd
  ·obtain⟨x,hx,rfl⟩:=List.mem_map.1 hy
   have:=List.of_mem_zip hx
   exact⟨by simp [hl],this.2,fun z hz=>by injection hz with hz;rw [←hz];exact this.1⟩
theorem C1b(ls:List Int)(d:Nat): ∀(m:List Int) (code:List Ins) (i:Nat),m.length=code.length→ls.length≠0→(∀k z,m[k]? =some z→ls[i+k]? =some z)→C6 (I2 ls) d i code=C6 fK d i ((m.zip code).map fun y=>(some y.1,y.2))
 | [],[],i,_,_,_=>rfl
 | [],_::_,i,h,_,_=>by cases h
 |_::_,[],i,h,_,_=>by cases h
 |z::m,x::code,i,h,hl,hz=>by
  rw [List.zip_cons_cons,List.map_cons,C6,C6,C1b ls d m code (i+1) zp hl (fun k w hk=>by have:=hz (k+1) w zS;rwa [show i+(k+1)=i+1+k by omega]at this)]
  congr 2
  unfold I2 fK A9T A0i
  rw [if_neg hl]
  have:=hz 0 z rfl
  rw [Nat.add_zero]at this
  rw [this]
  rfl
theorem B7q(ls:List Int)(d:Nat)(hl:ls.length=0): ∀(code:List Ins) (i:Nat),C6 (I2 ls) d i code=C6 fK d i (code.map fun x=>((none:Option Int),x))
 | [],i=>rfl
 |x::code,i=>by
  rw [List.map_cons,C6,C6,B7q ls d hl code (i+1)]
  congr 2
  unfold I2 fK A9T A0i
  rw [if_pos hl]
  rfl
theorem C7c{ls:List Int}{code:List Ins}(h:ls.length=0∨ls.length=code.length)(d:Nat):C6 (I2 ls) d 0 code=C6 fK d 0 (B8X ls code):=by
 unfold B8X
 by_cases hl:ls.length=0
 ·rw [if_pos hl];exact B7q ls d hl code 0
 ·rw [if_neg hl]
  exact C1b ls d ls code 0 zd hl fun k z hk=>by rw [Nat.zero_add];exact hk
theorem C8a{x:Ins}(h:chk x=0):D3 x≠ []:=by
 have ho:=(B1y h).1
 unfold D3
 rw [if_pos ho]
 obtain⟨n,hn,h1,h2⟩:=A5i ho
 have key: ∀m:Nat,m≤29→1≤m→(B3f m).word≠ []:=by decide
 have:(frm x.op).word≠ []:=by
  unfold frm
  rw [ho,if_pos rfl,hn,Int.toNat_natCast]
  exact key n h2 h1
 exact fun e=>this (List.append_eq_nil_iff.1 e).1
theorem D2L{F:List UInt8→Int×Int×Int}{G:List UInt8→Ins×Int}(hF: ∀p q,H1 p q=true→F (Z3 p q)=(p,q,0))(hG: ∀x,chk x=0→G (D3 x)=(x,0)){p:Fn}(ho:p.Okl)(path:List UInt8)(r:List Nd):
  ∃k b,H9 F G (⟨⟨p.name,p.line,p.params,p.vararg,p.regs,[],[],[],[],[],[]⟩,path,0,false⟩::r)
   ((C6 E6 (r.length+1) 0 p.consts++(C6 upT (r.length+1) 0 p.ups++(C6 O1 (r.length+1) 0 p.vars++C6 (I2 p.lines) (r.length+1) 0 p.code))).map N0)=some (⟨{p with protos:= []},path,k,b⟩::r):=by
 generalize hn0:(⟨⟨p.name,p.line,p.params,p.vararg,p.regs,[],[],[],[],[],[]⟩,path,0,false⟩:Nd)=n0
 have e0:n0.p=⟨p.name,p.line,p.params,p.vararg,p.regs,[],[],[],[],[],[]⟩∧n0.path=path∧n0.kind=0:=by rw [←hn0];exact⟨rfl,rfl,rfl⟩
 clear hn0
 obtain⟨e0,e0p,e0k⟩:=e0
 obtain⟨c1,c2⟩:=B1Z (F:=F) (G:=G) (f:=E6) (upd:=B8P) (P:=fun n i=>n.kind≤1∧n.p.consts.length=i) (Q:=fun v=>I0 v=true) r 1000000
  (fun n i x hB hp hq=>by
    obtain⟨hk,hi⟩:=hp
    subst hi
    refine⟨A9F (by rw [B5L];decide) (A6I (by rw [B5L];decide)) (C1p hF hk zd hq),Nat.le_refl _,?_⟩
    simp [B8P]) p.consts 0 n0 (by have:=ho.consts.1;omega) ⟨by omega,by rw [e0];rfl⟩ (fun v hv=>(ho.consts.2 v hv).1)
 obtain⟨p1,q1,_⟩:=C6v p.consts n0
 generalize p.consts.foldl B8P n0=n1 at*
 rw [e0]at p1
 obtain⟨u1,u2⟩:=B1Z (F:=F) (G:=G) (f:=upT) (upd:=B8R) (P:=fun n i=>n.kind≤2∧n.p.ups.length=i) (Q:=fun u=>inB u.idx) r 1000000
  (fun n i x hB hp hq=>by
    obtain⟨hk,hi⟩:=hp
    subst hi
    refine⟨A9F (by rw [C7u];decide) (A6I (by rw [C7u];decide)) (D0a hk zd hq),Nat.le_refl _,?_⟩
    simp [B8R]) p.ups 0 n1 (by have:=ho.ups.1;omega) ⟨by have:=c2.1;omega,by rw [p1];rfl⟩ (fun u hu=>(ho.ups.2 u hu).2)
 obtain⟨p2,q2,_⟩:=C6x p.ups n1
 generalize p.ups.foldl B8R n1=n2 at*
 rw [p1]at p2
 obtain⟨v1,v2⟩:=B1Z (F:=F) (G:=G) (f:=O1) (upd:=B8S) (P:=fun n i=>n.kind≤3∧n.p.vars.length=i) (Q:=fun v=>inB v.reg∧inB v.lo∧inB v.hi∧0≤v.attr∧v.attr≤2) r 1000000
  (fun n i x hB hp hq=>by
    obtain⟨hk,hi⟩:=hp
    subst hi
    refine⟨A9F (by rw [C2k];decide) (A6I (by rw [C2k];decide)) (C8l hk zd hq.1 hq.2.1 hq.2.2.1 hq.2.2.2),Nat.le_refl _,?_⟩
    simp [B8S]) p.vars 0 n2 (by have:=ho.vars.1;omega) ⟨by have:=u2.1;omega,by rw [p2];rfl⟩ (fun v hv=>(ho.vars.2 v hv).2)
 obtain⟨p3,q3,_⟩:=C6y p.vars n2
 generalize p.vars.foldl B8S n2=n3 at*
 rw [p2]at p3
 obtain⟨z1,z2,z3⟩:=C8o ho.lines.1
 obtain⟨k1,_⟩:=B1Z (F:=F) (G:=G) (f:=fK) (upd:=B8Q) (P:=fun n i=>n.kind≤4∧n.p.code.length=i∧(i=0∨n.lined=decide (p.lines.length≠0))) (Q:=fun y=>y.1.isSome=decide (p.lines.length≠0)∧chk y.2=0∧ ∀z,y.1=some z→inB z) r 1000000
  (fun n i x hB hp hq=>by
    obtain⟨hk,hi,hl⟩:=hp
    subst hi
    obtain⟨c,t,e,hc⟩:=B6I n.p.code.length x
    have n4:rkT (fK n.p.code.length x)≠5:=by
     rw [e]
     unfold rkT
     simp only [List.getD_cons_zero]
     rw [if_neg zd,if_neg zd,if_neg zd,if_neg zd]
     decide
    have n32: ∃c t,fK n.p.code.length x=c::t∧c≠32:=⟨c,t,e,by rintro rfl;revert hc;decide⟩
    refine⟨A9F n4 n32 (C4a hG hk zd hq.2.1 (C8a hq.2.1) hq.2.2 (hl.imp id fun h=>h.trans hq.1.symm)),Nat.le_refl _,?_,.inr hq.1⟩
    simp [B8Q]) (B8X p.lines p.code) 0 n3 (by
     have:=congrArg List.length z1
     rw [List.length_map]at this
     have:=ho.code.1
     omega) ⟨by have:=v2.1;omega,by rw [p3];rfl,.inl rfl⟩ (fun y hy=>by
     obtain⟨a1,a2,a3⟩:=z3 y hy
     exact⟨a1,ho.code.2 _ a2,fun z hz=>ho.lines.2 z (a3 z hz)⟩)
 obtain⟨p4,q4⟩:=C6w (B8X p.lines p.code) n3
 generalize (B8X p.lines p.code).foldl B8Q n3=n4 at*
 rw [p3,z1,z2]at p4
 refine⟨n4.kind,n4.lined,?_⟩
 rw [List.map_append,A1B c1,List.map_append,A1B u1,List.map_append,A1B v1,C7c ho.lines.1,k1]
 congr 2
 obtain⟨np,npath,nk,nl⟩:=n4
 simp only at p4 q4⊢
 rw [q4,q3,q2,q1,e0p,p4]
 rfl
theorem D3e{F:List UInt8→Int×Int×Int}{G:List UInt8→Ins×Int}(hF: ∀p q,H1 p q=true→F (Z3 p q)=(p,q,0))(hG: ∀x,chk x=0→G (D3 x)=(x,0))(p:Fn): ∀(path:List UInt8) (st base:List Nd),(∀q∈p.each,q.Okl)→(32:UInt8)∉path→
  (st= []∧base= []∧path=A2z∨base≠ []∧base.length≤st.length∧C5 base.length st=base∧ ∀m r,base=m::r→path=A4Y m)→
  ∃st' k b,H9 F G st ((F4 path base.length p).map N0)=some st'∧base.length+1≤st'.length∧C5 (base.length+1) st'=⟨p,path,k,b⟩::base:=by
 induction p using Fn.ind with
 | h p ih=>
  intro path st base hok hp hb
  have ho:=hok p p.self_mem
  have hpne:path≠ []:=by
   rcases hb with⟨_,_,h⟩|⟨h0,_,_,h⟩
   ·rw [h];decide
   ·cases base with
    |nil=>exact absurd rfl h0
    |cons m r=>rw [h m r rfl];exact B8M m
  obtain⟨g1,g2⟩:=C8P hp hpne (p:=p) ho.nums.1 ho.nums.2.1 ho.nums.2.2
  have hc:G5 p path=102::(G5 p path).drop 1:=rfl
  have hs:spN (N0 (base.length,G5 p path))=2*base.length:=by rw [show N0 (base.length,G5 p path)=List.replicate (2*base.length) 32++102::(G5 p path).drop 1 from rfl];exact C7S _ zf
  have hd:(N0 (base.length,G5 p path)).drop (2*base.length)=G5 p path:=by
   unfold N0
   have:(List.replicate (2*base.length) (32:UInt8)).length=2*base.length:=List.length_replicate
   conv=>lhs;arg 1;rw [←this]
   exact List.drop_left
  have hf:(G5 p path).take 5=A3M++ [32]:=by rw [B0N];rfl
  have head:P6 F G st (N0 (base.length,G5 p path))=some (⟨⟨p.name,p.line,p.params,p.vararg,p.regs,[],[],[],[],[],[]⟩,path,0,false⟩::base):=by
   unfold P6
   rw [hs,hd,if_neg zd,if_pos hf,show 2*base.length/2=base.length by omega]
   unfold S0
   rcases hb with⟨rfl,rfl,rfl⟩|⟨h0,h1,h2,h3⟩
   ·rw [if_pos (by rfl),if_pos ⟨rfl,g1⟩,g2]
   ·cases base with
    |nil=>exact absurd rfl h0
    |cons m r=>
     rw [if_neg zg,if_neg zd,h2]
     have:=h3 m r rfl
     subst this
     simp only
     rw [if_pos g1,g2]
  obtain⟨k,b,own⟩:=D2L hF hG ho path base
  have sub: ∀(l:List Fn) (nd:Nd) (st1:List Nd),nd.path=path→base.length+1≤st1.length→C5 (base.length+1) st1=nd::base→(∀q∈l,q∈p.protos)→
    ∃st',H9 F G st1 ((linesFs path (base.length+1) nd.p.protos.length l).map N0)=some st'∧base.length+1≤st'.length∧C5 (base.length+1) st'={nd with p:={nd.p with protos:=nd.p.protos++l}}::base:=by
   intro l
   induction l with
   |nil=>
    intro nd st1 h1 h2 h3 _
    refine⟨st1,by rw [linesFs];rfl,h2,?_⟩
    rw [h3]
    obtain⟨⟨_,_,_,_,_,_,_,_,_,_,_⟩,_,_,_⟩:=nd
    simp
   | cons q l ihl=>
    intro nd st1 h1 h2 h3 hm
    have hq:=hm q List.mem_cons_self
    have h32:(32:UInt8)∉path++46::Lib.itoa nd.p.protos.length:=fun h=>by
     rcases List.mem_append.1 h with h|h
     ·exact hp h
     ·rcases List.mem_cons.1 h with h|h
      ·revert h;decide
      ·exact A4e _ h
    obtain⟨s2,k2,b2,r1,r2,r3⟩:=ih q hq (path++46::Lib.itoa nd.p.protos.length) st1 (nd::base) (fun x hx=>hok x (Fn.each_trans p q (Fn.child_mem p.self_mem hq) x hx)) h32
     (.inr ⟨by simp,by simpa using h2,by simpa using h3,fun m r e=>by injection e with e1 e2;subst e1;rw [A4Y,h1]⟩)
    have r3:C5 (base.length+2) s2=⟨q,path++46::Lib.itoa nd.p.protos.length,k2,b2⟩::nd::base:=r3
    have r2:base.length+2≤s2.length:=r2
    have r1:H9 F G st1 ((F4 (path++46::Lib.itoa nd.p.protos.length) (base.length+1) q).map N0)=some s2:=r1
    have h4:C5 (base.length+1) s2={nd with p:=A2W nd.p q}::base:=by
     rw [←C5h (base.length+1) (base.length+2) zd _ s2 (Nat.le_refl _),r3,C5,if_pos zd]
     exact B8H zg
    obtain⟨s3,t1,t2,t3⟩:=ihl {nd with p:=A2W nd.p q} s2 h1 zd h4 fun x hx=>hm x (List.mem_cons_of_mem _ hx)
    refine⟨s3,?_,t2,?_⟩
    ·rw [linesFs,List.map_append,A1B r1]
     have:(A2W nd.p q).protos.length=nd.p.protos.length+1:=by simp [A2W]
     simp only [this]at t1
     exact t1
    ·rw [t3]
     simp [A2W]
  obtain⟨st',t1,t2,t3⟩:=sub p.protos ⟨{p with protos:= []},path,k,b⟩ (⟨{p with protos:= []},path,k,b⟩::base) rfl zg (B8H zg) fun _ h=>h
  refine⟨st',k,b,?_,t2,?_⟩
  ·rw [I4,A0z,List.cons_append,List.map_cons,H9,head]
   show H9 F G _ _=_
   rw [List.map_append,A1B own]
   exact t1
  ·rw [t3]
   obtain⟨_,_,_,_,_,_,_,_,_,_,_⟩:=p
   rfl
theorem C4X{F:List UInt8→Int×Int×Int}{G:List UInt8→Ins×Int}(hF: ∀p q,H1 p q=true→F (Z3 p q)=(p,q,0))(hG: ∀x,chk x=0→G (D3 x)=(x,0)){p:Fn}(hok: ∀q∈p.each,q.Okl):
  ∃st n,H9 F G [] ((F4 A2z 0 p).map N0)=some st∧C5 1 st= [n]∧n.p=p:=by
 obtain⟨st,k,b,h1,_,h3⟩:=D3e hF hG p A2z [] [] hok zf (.inl ⟨rfl,rfl,rfl⟩)
 exact⟨st,_,h1,h3,rfl⟩
end
end Go.Proofs.YtflobbpcabopjaaGreatDoor
