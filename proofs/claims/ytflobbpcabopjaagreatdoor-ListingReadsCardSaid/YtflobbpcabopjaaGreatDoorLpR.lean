/-
 listing.Parse as a function of bytes: a listing is read as its function, and what is read has the text as its listing. No program, no condition.
-/
import Derived.Test.YtflobbpcabopjaaGreatDoorLpY
import Derived.Test.YtflobbpcabopjaaGreatDoorLsA2
import Derived.Test.YtflobbpcabopjaaGreatDoorLpM
import Derived.Test.YtflobbpcabopjaaGreatDoorLsS
import Derived.Lib.TrimByte
set_option linter.unusedVariables false set_option linter.unusedSimpArgs false set_option maxRecDepth 100000
set_option maxHeartbeats 0
namespace Go.Proofs.YtflobbpcabopjaaGreatDoor
section
open Go Go.Abs
attribute [local irreducible] atN isN D9 d7 hOk hFn cOk B0F uOk B1k lOk A8n kOk A4J D4 S9
def A7L:List UInt8→Option (List UInt8×List UInt8)
 | []=>none
 |c::r=>if c=10 then some ([],r)else(A7L r).map fun p=>(c::p.1,p.2)
theorem A5d: ∀{s t r:List UInt8},A7L s=some (t,r)→s=t++10::r∧noN t
 | [],t,r,h=>by cases h
 | c::s,t,r,h=>by
  rw [A7L]at h
  split at h
  ·rename_i hc
   injection h with h
   injection h with h1 h2
   subst h1 h2
   exact⟨by rw [hc];rfl,A0w⟩
  ·rename_i hc
   obtain⟨p,h1,h2⟩:=Option.map_eq_some_iff.1 h
   injection h2 with h3 h4
   obtain⟨e1,e2⟩:=A5d (t:=p.1) (r:=p.2) h1
   subst h3 h4
   exact⟨by rw [e1];rfl,I3 (fun e=>hc e.symm) e2⟩
theorem B8e: ∀{t:List UInt8} (r:List UInt8),noN t→A7L (t++10::r)=some (t,r)
 | [],r,_=>rfl
 |c::t,r,h=>by
  have hc:c≠10:=fun e=>h zQ
  rw [List.cons_append,A7L,if_neg hc,B8e r fun hm=>h (List.mem_cons_of_mem _ hm)]
  rfl
theorem A9w{s t r:List UInt8}(h:A7L s=some (t,r)):r.length<s.length:=by
 rw [(A5d h).1];simp;omega
def U6(F:List UInt8→Int×Int×Int)(G:List UInt8→Ins×Int)(st:List Nd)(s:List UInt8):Option (List Nd):=
 match h:A7L s with
 |none=>none
 |some (t,r)=>(P6 F G st t).bind fun st'=>if r= []then some st' else U6 F G st' r
termination_by s.length
decreasing_by exact A9w h
theorem B0R{F:List UInt8→Int×Int×Int}{G:List UInt8→Ins×Int}{st:List Nd}{s:List UInt8}(h:A7L s=none):U6 F G st s=none:=by
 rw [U6]
 split
 ·rfl
 ·rename_i h2;rw [h]at h2;cases h2
theorem A6A{F:List UInt8→Int×Int×Int}{G:List UInt8→Ins×Int}{st:List Nd}{s t r:List UInt8}(h:A7L s=some (t,r)):U6 F G st s=(P6 F G st t).bind fun st'=>if r= []then some st' else U6 F G st' r:=by
 rw [U6]
 split
 ·rename_i h2;rw [h]at h2;cases h2
 ·rename_i t' r' h2
  rw [h]at h2
  injection h2 with h2
  injection h2 with h3 h4
  subst h3 h4
  rfl
theorem B0S{F:List UInt8→Int×Int×Int}{G:List UInt8→Ins×Int}: ∀(k:Nat) (s:List UInt8) (st st':List Nd),s.length≤k→U6 F G st s=some st'→ ∃ls,ls≠ []∧s=(ls.flatMap fun l=>l++ [10])∧H9 F G st ls=some st':=by
 intro k
 induction k with
 |zero=>
  intro s st st' hk h
  have:=List.length_eq_zero_iff.1 (Nat.le_zero.1 hk)
  subst this
  rw [B0R rfl]at h
  cases h
 | succ k ih=>
  intro s st st' hk h
  cases hc:A7L s with
  |none=>rw [B0R hc]at h;cases h
  | some p=>
   obtain⟨t,r⟩:=p
   rw [A6A hc]at h
   obtain⟨s1,h1,h2⟩:=Option.bind_eq_some_iff.1 h
   have e:=(A5d hc).1
   by_cases hr:r= []
   ·rw [if_pos hr]at h2
    injection h2 with h2
    subst h2
    refine⟨[t],by simp,by rw [e,hr];simp,?_⟩
    rw [H9,h1]
    rfl
   ·rw [if_neg hr]at h2
    have:=A9w hc
    obtain⟨ls,_,e2,e3⟩:=ih r s1 st' zd h2
    refine⟨t::ls,by simp,?_,?_⟩
    ·rw [e,List.flatMap_cons,←e2];simp
    ·rw [H9,h1]
     exact e3
theorem B5s{F:List UInt8→Int×Int×Int}{G:List UInt8→Ins×Int}: ∀(ls:List (List UInt8)) (st:List Nd),ls≠ []→(∀l∈ls,noN l)→U6 F G st (ls.flatMap fun l=>l++ [10])=H9 F G st ls
 | [],st,h,_=>absurd rfl h
 | [l],st,_,hn=>by
  have e:([l].flatMap fun l=>l++ [10])=l++10:: []:=by simp
  rw [e,A6A (B8e [] (hn l List.mem_cons_self)),H9]
  congr 1
 |l::m::ls,st,_,hn=>by
  have e:((l::m::ls).flatMap fun l=>l++ [10])=l++10::((m::ls).flatMap fun l=>l++ [10]):=by simp
  have ne:((m::ls).flatMap fun l=>l++ [10])≠ []:=by simp
  rw [e,A6A (B8e _ (hn l List.mem_cons_self)),H9]
  congr 1
  funext st'
  rw [if_neg ne]
  exact B5s (m::ls) st' zg fun x hx=>hn x (List.mem_cons_of_mem _ hx)
theorem B2a{F:List UInt8→Int×Int×Int}{G:List UInt8→Ins×Int}(hne: ∀s,(G s).2=0→D3 (G s).1≠ []){s:List UInt8}{st:List Nd}{n:Nd}(h:U6 F G [] s=some st)(hs:C5 1 st= [n]):N4 n.p=s:=by
 obtain⟨ls,_,e,h2⟩:=B0S _ s [] st (Nat.le_refl _) h
 rw [e]
 exact B8y hne h2 hs
theorem C4L{F:List UInt8→Int×Int×Int}{G:List UInt8→Ins×Int}(hF: ∀p q,H1 p q=true→F (Z3 p q)=(p,q,0))(hG: ∀x,chk x=0→G (D3 x)=(x,0)){p:Fn}(hok: ∀q∈p.each,q.Okl):
  ∃st n,U6 F G [] (N4 p)=some st∧C5 1 st= [n]∧n.p=p:=by
 obtain⟨st,n,h1,h2,h3⟩:=C4X hF hG hok
 refine⟨st,n,?_,h2,h3⟩
 have e:N4 p=((F4 A2z 0 p).map N0).flatMap fun l=>l++ [10]:=by
  exact YZ
 rw [e,B5s _ [] (by
  rw [I4,A0z]
  simp) (fun l hl=>by
  obtain⟨e,he,rfl⟩:=List.mem_map.1 hl
  have:=B0P p (path:=A2z) zf 0 e he
  unfold N0
  refine A2I (fun h=> ?_) this
  have:=(List.mem_replicate.1 h).2
  revert this
  decide)]
 exact h1
theorem C9h{F:List UInt8→Int×Int×Int}{G:List UInt8→Ins×Int}{st st':List Nd}{l:List UInt8}(h:P6 F G st l=some st'):st'≠ []:=by
 unfold P6 S0 at h
 split at h
 ·cases h
 split at h
 ·split at h
  ·split at h
   ·injection h with h;rw [←h];simp
   ·cases h
  ·split at h
   ·cases h
   ·split at h
    ·cases h
    ·split at h
     ·injection h with h;rw [←h];simp
     ·cases h
 ·split at h
  ·cases h
  ·split at h
   ·cases h
   ·obtain⟨n',_,h⟩:=Option.map_eq_some_iff.1 h
    rw [←h];simp
theorem B9U{F:List UInt8→Int×Int×Int}{G:List UInt8→Ins×Int}{s:List UInt8}{st:List Nd}(h:U6 F G [] s=some st): ∃n,C5 1 st= [n]:=by
 obtain⟨ls,hne,_,h2⟩:=B0S _ s [] st (Nat.le_refl _) h
 have key: ∀(ls:List (List UInt8)) (s0:List Nd),ls≠ []→H9 F G s0 ls=some st→st≠ []:=by
  intro ls
  induction ls with
  |nil=>intro _ h;exact absurd rfl h
  | cons l ls ih=>
   intro s0 _ h
   rw [H9]at h
   obtain⟨s1,h1,h3⟩:=Option.bind_eq_some_iff.1 h
   by_cases hl:ls= []
   ·subst hl
    injection h3 with h3
    rw [←h3]
    exact C9h h1
   ·exact ih s1 hl h3
 have h3:=key ls [] hne h2
 have:=C0D 1 zd _ st (Nat.le_refl _) (by cases st with|nil=>exact absurd rfl h3|cons a b=>simp)
 match hst:C5 1 st,this with
 | [n],_=>exact⟨n,rfl⟩
end
section
open Go Go.Abs
attribute [local irreducible] atN isN D9 d7 hOk hFn cOk B0F uOk B1k lOk A8n kOk A4J D4 S9
structure N64(p:Fn):Prop where
 nums:inB p.line∧inB p.params∧inB p.regs
 code: ∀i∈p.code,n64L i.row
 lines: ∀z∈p.lines,inB z
 consts: ∀v∈p.consts,n64L v.row
 protos: ∀q∈p.protos,n64L q.row
 ups: ∀u∈p.ups,n64L u.row
 vars: ∀v∈p.vars,n64L v.row
theorem A4o(p:Fn):n64L p.row↔N64 p:=by
 rw [Fn.row_eq]
 simp only [n64L,n64,A5s,List.mem_map,forall_exists_index,and_imp,forall_apply_eq_imp_iff₂,and_true,true_and]
 constructor
 ·rintro⟨v1,v2,v3,v4,v5,v6,v7,v8,v9⟩
  exact⟨⟨v1,v2,v3⟩,v4,fun z hz=>by have:=v5 z hz;simp only [E9,n64L,n64]at this;exact this.1,v6,v7,v8,v9⟩
 ·rintro⟨⟨v1,v2,v3⟩,v4,v5,v6,v7,v8,v9⟩
  exact⟨v1,v2,v3,v4,fun z hz=>by simp only [E9,n64L,n64];exact⟨v5 z hz,trivial⟩,v6,v7,v8,v9⟩
def B2U(st:List Nd):Prop:= ∀n∈st,n64L n.p.row
theorem C7d{m q:Fn}(hm:n64L m.row)(hq:n64L q.row):n64L (A2W m q).row:=by
 obtain⟨a1,a2,a3,a4,a5,a6,a7⟩:=(A4o m).1 hm
 exact(A4o _).2 ⟨a1,a2,a3,a4,fun x hx=>(List.mem_append.1 hx).elim (a5 x) fun h=>by rw [List.mem_singleton.1 h];exact hq,a6,a7⟩
theorem B7t(d:Nat): ∀(k:Nat) (st:List Nd),st.length≤k→B2U st→B2U (C5 d st):=by
 intro k
 induction k with
 |zero=>intro st hk h;have:=List.length_eq_zero_iff.1 (Nat.le_zero.1 hk);subst this;rw [C5];exact h
 | succ k ih=>
  intro st hk h
  match st with
  | []=>rw [C5];exact h
  | [n]=>rw [C5];exact h
  | n::m::r=>
   rw [C5]
   simp only [List.length_cons]at hk
   split
   ·refine ih _ zD fun x hx=> ?_
    rcases List.mem_cons.1 hx with rfl|hx
    ·exact C7d (h m zg) (h n zg)
    ·exact h x (by simp [hx])
   ·exact h
structure Ans(F:List UInt8→Int×Int×Int)(G:List UInt8→Ins×Int):Prop where
 f: ∀w,inB (F w).1∧inB (F w).2.1
 g: ∀s,n64L (G s).1.row
theorem D1P{F:List UInt8→Int×Int×Int}(hF: ∀w,inB (F w).1∧inB (F w).2.1)(n:Nat)(t:List UInt8):n64L (B0F F n t).row:=by
 have z0:inB 0:=by unfold inB;omega
 have z1:inB 1:=by unfold inB;omega
 have z2:inB 2:=by unfold inB;omega
 have z3:inB 3:=by unfold inB;omega
 unfold B0F Sc.valV
 repeat' split
 all_goals simp only [Kst.row,n64L,n64,and_true,true_and]
 ·exact⟨z3,z0,z0,z0⟩
 ·exact⟨z0,z0,z0,z0⟩
 ·exact⟨z1,z0,z0,z1⟩
 ·exact⟨z1,z0,z0,z0⟩
 ·exact⟨z2,(hF _).1,(hF _).2,z0⟩
theorem C8Z(n:Nat)(t:List UInt8):inB (A6Q n t):=by
 unfold A6Q inB
 repeat' split
 all_goals omega
theorem C4P{F:List UInt8→Int×Int×Int}{G:List UInt8→Ins×Int}(ha:Ans F G)(hne: ∀s,(G s).2=0→D3 (G s).1≠ []){n n':Nd}{t:List UInt8}(h:V6 F G n t=some n')(hn:n64L n.p.row):n64L n'.p.row:=by
 obtain⟨a1,a2,a3,a4,a5,a6,a7⟩:=(A4o n.p).1 hn
 unfold V6 at h
 split at h
 ·cases h
 split at h
 ·split at h
  ·injection h with h
   subst h
   exact(A4o _).2 ⟨a1,a2,a3,fun x hx=>(List.mem_append.1 hx).elim (a4 x) fun h=>by rw [List.mem_singleton.1 h];exact D1P ha.f _ _,a5,a6,a7⟩
  ·cases h
 split at h
 ·rename_i k2
  split at h
  ·rename_i ok
   injection h with h
   subst h
   have hc:t.take 3=wUp++ [32]:=by
    exact YB
   have e:=(C3z hc ok).2
   exact(A4o _).2 ⟨a1,a2,a3,a4,a5,fun x hx=>(List.mem_append.1 hx).elim (a6 x) fun h=>by
    rw [List.mem_singleton.1 h]
    simp only [Upv.row,n64L,n64,and_true,true_and]
    exact e,a7⟩
  ·cases h
 split at h
 ·rename_i k3
  split at h
  ·rename_i ok
   injection h with h
   subst h
   have hc:t.take 4=B6h++ [32]:=by
    exact Yi
   obtain⟨_,e1,e2,e3⟩:=C0Z hc ok
   exact(A4o _).2 ⟨a1,a2,a3,a4,a5,a6,fun x hx=>(List.mem_append.1 hx).elim (a7 x) fun h=>by
    rw [List.mem_singleton.1 h]
    simp only [Vr.row,n64L,n64,and_true,true_and]
    refine⟨e1,e2,e3,?_⟩
    have:(A8n n.p.vars.length t).attr=A6Q n.p.vars.length t:=by unfold A8n;rfl
    rw [this]
    exact C8Z _ _⟩
  ·cases h
 split at h
 ·rename_i ok
  injection h with h
  subst h
  obtain⟨_,e⟩:=B6H hne ok.1
  refine(A4o _).2 ⟨a1,fun x hx=>(List.mem_append.1 hx).elim (a2 x) fun h=> ?_,fun z hz=> ?_,a4,a5,a6,a7⟩
  ·rw [List.mem_singleton.1 h]
   have:A4J G n.p.code.length t=(G (kS2 n.p.code.length t).s).1:=by unfold A4J;rfl
   rw [this]
   exact ha.g _
  ·split at hz
   ·rename_i hb
    rcases List.mem_append.1 hz with hz|hz
    ·exact a3 z hz
    ·rw [List.mem_singleton.1 hz]
     exact e hb
   ·exact a3 z hz
 ·cases h
theorem C0f{path t:List UInt8}(hp:path≠ [])(h:hOk path t=true):n64L (hFn path t).row:=by
 obtain⟨_,b1,b2,b3⟩:=B6Z hp h
 have f:(hFn path t).code= []∧(hFn path t).lines= []∧(hFn path t).consts= []∧(hFn path t).protos= []∧(hFn path t).ups= []∧(hFn path t).vars= []:=by
  unfold hFn
  exact⟨rfl,rfl,rfl,rfl,rfl,rfl⟩
 obtain⟨f1,f2,f3,f4,f5,f6⟩:=f
 refine(A4o _).2 ⟨⟨b1,b2,b3⟩,?_,?_,?_,?_,?_,?_⟩
 all_goals first
  |rw [f1]
  |rw [f2]
  |rw [f3]
  |rw [f4]
  |rw [f5]
  |rw [f6]
 all_goals (intro x hx;cases hx)
theorem C4Q{F:List UInt8→Int×Int×Int}{G:List UInt8→Ins×Int}(ha:Ans F G)(hne: ∀s,(G s).2=0→D3 (G s).1≠ []){st st':List Nd}{l:List UInt8}(h:P6 F G st l=some st')(hn:B2U st):B2U st':=by
 unfold P6 S0 at h
 split at h
 ·cases h
 split at h
 ·split at h
  ·split at h
   ·rename_i hc
    injection h with h
    subst h
    intro x hx
    rw [List.mem_singleton.1 hx]
    exact C0f zf hc.2
   ·cases h
  ·split at h
   ·cases h
   ·have hs:=B7t (spN l/2) _ st (Nat.le_refl _) hn
    split at h
    ·cases h
    ·rename_i m r hsh
     rw [hsh]at hs
     split at h
     ·rename_i ok
      injection h with h
      subst h
      intro x hx
      rcases List.mem_cons.1 hx with rfl|hx
      ·exact C0f (B8M m) ok
      ·exact hs x hx
     ·cases h
 ·split at h
  ·cases h
  ·rename_i n r
   split at h
   ·cases h
   ·obtain⟨n',hb,h⟩:=Option.map_eq_some_iff.1 h
    subst h
    intro x hx
    rcases List.mem_cons.1 hx with rfl|hx
    ·exact C4P ha hne hb (hn n zg)
    ·exact hn x (by simp [hx])
theorem B5D{F:List UInt8→Int×Int×Int}{G:List UInt8→Ins×Int}(ha:Ans F G)(hne: ∀s,(G s).2=0→D3 (G s).1≠ []): ∀{ls:List (List UInt8)} {st st':List Nd},H9 F G st ls=some st'→B2U st→B2U st'
 | [],st,st',h,hn=>by injection h with h;subst h;exact hn
 |l::r,st,st',h,hn=>by
  rw [H9]at h
  obtain⟨s1,h1,h2⟩:=Option.bind_eq_some_iff.1 h
  exact B5D ha hne h2 (C4Q ha hne h1 hn)
theorem C4M{F:List UInt8→Int×Int×Int}{G:List UInt8→Ins×Int}(ha:Ans F G)(hne: ∀s,(G s).2=0→D3 (G s).1≠ []){s:List UInt8}{st:List Nd}{n:Nd}(h:U6 F G [] s=some st)(hs:C5 1 st= [n]):n64L n.p.row:=by
 obtain⟨ls,_,_,h2⟩:=B0S _ s [] st (Nat.le_refl _) h
 have:=B7t 1 _ st (Nat.le_refl _) (B5D ha hne h2 fun x hx=>by cases hx)
 rw [hs]at this
 exact this n List.mem_cons_self
end
section
open Go Go.Abs
attribute [local irreducible] atN isN D9 d7 hOk hFn cOk B0F uOk B1k lOk A8n kOk A4J D4 S9
theorem B3Q: ∀s:List UInt8,Lib.trimLeftB s 32=s.drop (spN s)
 | []=>rfl
 |c::r=>by
  have ih:=B3Q r
  unfold Lib.trimLeftB at ih⊢
  rw [spN,List.dropWhile_cons]
  by_cases h:c=32
  ·rw [if_pos zp,if_pos h,ih,List.drop_succ_cons]
  ·rw [if_neg zp,if_neg h,List.drop_zero]
theorem C7R: ∀s:List UInt8,spN s≤s.length
 | []=>Nat.le_refl _
 |c::r=>by
  have:=C7R r
  rw [spN]
  split
  ·exact Kz
  ·omega
theorem A2O(s p:List UInt8):Lib.hasPrefix s p=decide (s.take p.length=p):=by
 exact Yt
theorem C2U: ∀s:List UInt8,B0K 10 s=A7L s
 | []=>rfl
 |c::r=>by rw [B0K,A7L,C2U r]
def A2y(F:List UInt8→Int×Int×Int)(G:List UInt8→Ins×Int)(st:List Nd)(s:List UInt8):Nat:=
 match h:A7L s with
 |none=>1
 |some (t,r)=>match P6 F G st t with
  |none=>1
  |some st'=>if r= []then 1 else A2y F G st' r+1
termination_by s.length
decreasing_by exact A9w h
theorem B3i{F:List UInt8→Int×Int×Int}{G:List UInt8→Ins×Int}{st:List Nd}{s:List UInt8}(h:A7L s=none∨ ∃t r,A7L s=some (t,r)∧P6 F G st t=none):A2y F G st s=1:=by
 rw [A2y]
 split
 ·rfl
 ·rename_i t r h2
  rcases h with h|⟨t',r',h,h3⟩
  ·rw [h]at h2;cases h2
  ·rw [h]at h2
   injection h2 with h2
   injection h2 with h4 h5
   subst h4 h5
   rw [h3]
theorem C1U{F:List UInt8→Int×Int×Int}{G:List UInt8→Ins×Int}{st st':List Nd}{s t r:List UInt8}(h:A7L s=some (t,r))(h2:P6 F G st t=some st')(h3:r≠ []):A2y F G st s=A2y F G st' r+1:=by
 rw [A2y]
 split
 ·rename_i h4;rw [h]at h4;cases h4
 ·rename_i t' r' h4
  rw [h]at h4
  injection h4 with h4
  injection h4 with h5 h6
  subst h5 h6
  rw [h2]
  simp only
  rw [if_neg h3]
theorem C4K{F:List UInt8→Int×Int×Int}{G:List UInt8→Ins×Int}(st:List Nd)(s:List UInt8):1≤A2y F G st s:=by
 rw [A2y]
 split
 ·exact Nat.le_refl _
 ·split
  ·exact Nat.le_refl _
  ·split<;>omega
def LB(s:List UInt8):Prop:= ∀a t b,s=a++(t++b)→noN t→t.length≤100000
theorem LB.small{s:List UInt8}(h:s.length≤100000):LB s:=by
 intro a t b e _
 have:=congrArg List.length e
 simp only [List.length_append]at this
 omega
theorem LB.cut{s t r:List UInt8}(h:LB s)(hc:A7L s=some (t,r)):t.length≤100000∧LB r:=by
 obtain⟨e,hn⟩:=A5d hc
 refine⟨h [] t (10::r) (by rw [e];rfl) hn,fun a t' b e' hn'=>h (t++10::a) t' b (by rw [e,e'];simp) hn'⟩
theorem C6W{x y a t b:List UInt8}(h:x++y=a++(t++b))(hx:x= []∨ ∃z,x=z++ [10])(hn:noN t):(∃a',y=a'++(t++b))∨ ∃b',x=a++(t++b'):=by
 rcases List.append_eq_append_iff.1 h with⟨c,h1,h2⟩|⟨c,h1,h2⟩
 ·exact .inl ⟨c,h2⟩
 ·rcases List.append_eq_append_iff.1 h2 with⟨d,h3,h4⟩|⟨d,h3,h4⟩
  ·exact .inr ⟨d,by rw [h1,h3]⟩
  ·by_cases hc:c= []
   ·subst hc
    simp only [List.nil_append]at h3
    exact .inl ⟨[],by rw [h3,List.nil_append];exact h4⟩
   ·exfalso
    have hcl: ∃z,c=z++ [10]:=by
     rcases hx with hx|⟨z,hx⟩
     ·rw [hx]at h1
      exact absurd (List.append_eq_nil_iff.1 h1.symm).2 hc
     ·rw [hx]at h1
      rcases List.append_eq_append_iff.1 h1 with⟨w,g1,g2⟩|⟨w,g1,g2⟩
      ·cases w with
       |nil=>exact⟨[],by rw [List.nil_append]at g2;rw [←g2];rfl⟩
       |cons p w=>
        injection g2 with g3 g4
        exact absurd (List.append_eq_nil_iff.1 g4.symm).2 hc
      ·exact⟨w,g2⟩
    obtain⟨z,hz⟩:=hcl
    refine hn ?_
    rw [h3,hz]
    simp
theorem LB.lines: ∀{ls:List (List UInt8)},(∀l∈ls,l.length<100000)→LB (ls.flatMap fun l=>l++ [10])
 | [],_=>LB.small zg
 | l::ls,h=>by
  intro a t b e hn
  rw [List.flatMap_cons]at e
  rcases C6W e (.inr ⟨l,rfl⟩) hn with⟨a',h1⟩|⟨b',h1⟩
  ·exact LB.lines (fun x hx=>h x (List.mem_cons_of_mem _ hx)) a' t b h1 hn
  ·have h2:=congrArg List.length h1
   have h3:=h l List.mem_cons_self
   simp only [List.length_append,List.length_singleton]at h2
   omega
theorem LB.without{x l y:List UInt8}(h:LB (x++(l++10::y)))(hx:x= []∨ ∃z,x=z++ [10]):LB (x++y):=by
 intro a t b e hn
 rcases C6W e hx hn with⟨a',h1⟩|⟨b',h1⟩
 ·exact h (x++(l++10::a')) t b (by rw [h1];simp) hn
 ·exact h a t (b'++(l++10::y)) (by rw [h1];simp) hn
end
end Go.Proofs.YtflobbpcabopjaaGreatDoor
