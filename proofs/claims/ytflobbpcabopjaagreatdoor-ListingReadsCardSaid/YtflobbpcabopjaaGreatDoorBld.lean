/-
 strings.Builder: copyCheck, WriteString, WriteByte, String. No condition.
-/
import Derived.Test.YtflobbpcabopjaaGreatDoorShelf
import Derived.Test.YtflobbpcabopjaaGreatDoorWk
import Derived.Test.YtflobbpcabopjaaGreatDoorCode
import Derived.Shelf.Strings.BuilderF
set_option linter.unusedVariables false set_option linter.unusedSimpArgs false set_option maxRecDepth 100000
set_option maxHeartbeats 0
namespace Go.Abs
variable {P:Program}
theorem C4g{T:Nat}{f:FuncId}(hfresh: ∀(b:Nat) (w:World),w.cell? ⟨b,0,none⟩=some (.pointer none)→w.shape? b=some (T,2)→w.frozen? ⟨b,0,none⟩=false→Calls P f #[.pointer (some ⟨b,0,none⟩)] w fun e w'=>e= .returned (.tuple #[])∧w'=w.setCell ⟨b,0,none⟩ (.pointer (some ⟨b,0,none⟩)))
  (hused: ∀(b:Nat) (w:World),w.cell? ⟨b,0,none⟩=some (.pointer (some ⟨b,0,none⟩))→Calls P f #[.pointer (some ⟨b,0,none⟩)] w fun e w'=>e= .returned (.tuple #[])∧w'=w) (b st n:Nat) (a x:V) (ha:a= .nilp∨a= .ptr b st 0 0):
  A0 P f [.ptr b st 0 0] [(b,st,.tb T 2 [[a,x]])] n fun r h' n'=>r= .tup []∧h'= [(b,st,.tb T 2 [[.ptr b st 0 0,x]])]∧n'=n:=by
 intro w O ρ cargs hr hR
 obtain⟨hl,hR⟩:=hR
 obtain⟨cs⟩:=cargs
 match cs,hl with
 | [v],_=>
  obtain⟨hst,hv⟩:=(hR 0 _ v rfl rfl).ptr_inv
  have hmem:(b,st,Blk.tb T 2 [[a,x]])∈ [(b,st,Blk.tb T 2 [[a,x]])]:=List.mem_singleton.2 rfl
  have hg:A2.get [(b,st,Blk.tb T 2 [[a,x]])] b st=some (.tb T 2 [[a,x]]):=by simp [A2.get]
  obtain⟨⟨hsz,hlen,hcell,hrows⟩,hoff,hsh⟩:=hr.blk _ hmem
  simp only at hsz hlen hcell hrows hoff hsh
  have hc0:(ρ st).cap≠0:=by simp at hlen;omega
  obtain⟨c,s1,s2,s3⟩:=hsh hc0
  have hc2:c=2:=s3 zf
  subst hc2
  obtain⟨hc1,_⟩:=hcell hc0
  have hf:=(hc1 0 zd).2
  simp only [hoff,Nat.add_zero]at hf
  have hvv:v= .pointer (some ⟨(ρ st).blk,0,none⟩):=by rw [hv];simp [hoff]
  subst hvv
  obtain⟨x0,q1,_,q3⟩:=(hrows 0 [a,x] rfl).2 0 a rfl
  simp only [hoff,Nat.zero_mul,Nat.add_zero]at q1
  rcases ha with rfl|rfl
  ·have hx0:x0= .pointer none:=by cases q3;rfl
   subst hx0
   refine(hfresh (ρ st).blk w q1 s1 hf).mono ?_
   rintro e w' ⟨rfl,rfl⟩
   obtain⟨hr1,hx1⟩:=hr.ofTb hg
   have hself:R (A4 w O ρ n (A2.put [(b,st,Blk.tb T 2 [[V.nilp,x]])] b st (.rows 2 [[.nilp,x]]))) (.ptr b st 0 0) (.pointer (some ⟨(ρ st).blk,0,none⟩)):=by
    have:=R.ptr (E:=A4 w O ρ n (A2.put [(b,st,Blk.tb T 2 [[V.nilp,x]])] b st (.rows 2 [[.nilp,x]]))) b st 0 0 hst
    simpa [hoff]using this
   obtain⟨_,_,a3,a4⟩:=hr1.store (i:=0) (j:=0) (row:= [.nilp,x]) (cs:= [.ptr b st 0 0]) (A2.get_put _ _ _ _) rfl zg (vs:= #[.pointer (some ⟨(ρ st).blk,0,none⟩)])
    ⟨rfl,fun i c v hc hv=>by cases i with|zero=>(simp at hc hv;subst hc;subst hv;exact hself)|succ i=>simp at hc⟩
    (fun i u hu=>by cases i with|zero=>(simp at hu;subst hu;rfl)|succ i=>simp at hu)
   rw [A2.put_put]at a3 a4
   have hw:w.setCells (ρ st).blk ((ρ st).off+0*2+0) (#[Value.pointer (some ⟨(ρ st).blk,0,none⟩)]:Array Value).toList=w.setCell ⟨(ρ st).blk,0,none⟩ (.pointer (some ⟨(ρ st).blk,0,none⟩)):=by
    simp [World.setCells,hoff]
   obtain⟨b1,b2⟩:=a3.toTb (T:=T) hoff (fun _=>⟨2,by rw [A0V];exact s1,s2,fun _=>by simp⟩)
   rw [hw]at a4 b1 b2
   refine⟨_,_,_,n,ρ,rfl,⟨rfl,?_,rfl⟩,b1,.tup _ _ rfl zg,hx1.trans (a4.trans b2)⟩
   simp [A2.put,A2.del,I8]
  ·have hx0:x0= .pointer (some ⟨(ρ st).blk,0,none⟩):=by
    obtain⟨_,e⟩:=q3.ptr_inv
    rw [e];simp [hoff]
   subst hx0
   refine(hused (ρ st).blk w q1).mono ?_
   rintro e w' ⟨rfl,rfl⟩
   exact⟨_,_,_,n,ρ,rfl,⟨rfl,rfl,rfl⟩,hr,.tup _ _ rfl zg,Ext.refl _⟩
theorem C0R{T e:Nat}{f:FuncId}(hstr: ∀(b g c cap:Nat) (l:List UInt8) (w:World),w.cell? ⟨b,1,none⟩=some (.slice (some ⟨g,0,none⟩) l.length cap)→w.shape? g=some (e,c)→l≠ []→l.length≤cap→cap≤c→l.length≤9223372036854775807→
   (∀j x,l[j]? =some x→w.cell? ⟨g,j,none⟩=some (.int .u8 x.toNat))→Calls P f #[.pointer (some ⟨b,0,none⟩)] w fun e w'=>e= .returned (.string ⟨l.toArray⟩)∧w'=w.drew.freeze ⟨g,0,none⟩ l.length)
  (b st nb sb n:Nat) (a:V) (l:List UInt8) (hne:nb≠b) (h0:l≠ []) (h63:l.length≤9223372036854775807):
  A0 P f [.ptr b st 0 0] [(nb,sb,.tb e 1 (C2 l)),(b,st,.tb T 2 [[a,.sl nb sb 0 l.length]])] n fun r h' n'=>r= .str l∧h'= []∧n'=n:=by
 intro w O ρ cargs hr hR
 obtain⟨hl,hR⟩:=hR
 obtain⟨cs⟩:=cargs
 match cs,hl with
 | [v],_=>
  obtain⟨hst,hv⟩:=(hR 0 _ v rfl rfl).ptr_inv
  have hm1:(nb,sb,Blk.tb e 1 (C2 l))∈ [(nb,sb,Blk.tb e 1 (C2 l)),(b,st,.tb T 2 [[a,.sl nb sb 0 l.length]])]:=List.mem_cons_self
  have hm2:(b,st,Blk.tb T 2 [[a,.sl nb sb 0 l.length]])∈ [(nb,sb,Blk.tb e 1 (C2 l)),(b,st,.tb T 2 [[a,.sl nb sb 0 l.length]])]:=by simp
  obtain⟨⟨hsz,hlen,hcell,hrows⟩,hoff,hsh⟩:=hr.blk _ hm2
  obtain⟨⟨hsz1,hlen1,hcell1,hrows1⟩,hoff1,hsh1⟩:=hr.blk _ hm1
  simp only at hsz hlen hcell hrows hoff hsh hsz1 hlen1 hcell1 hrows1 hoff1 hsh1
  have hsl:(C2 l).length=l.length:=by simp [C2]
  have hpos:0<l.length:=List.length_pos_iff.2 h0
  have hc1:(ρ sb).cap≠0:=by omega
  obtain⟨c,s1,s2,_⟩:=hsh1 hc1
  have hvv:v= .pointer (some ⟨(ρ st).blk,0,none⟩):=by rw [hv];simp [hoff]
  subst hvv
  obtain⟨x1,q1,_,q3⟩:=(hrows 0 [a,.sl nb sb 0 l.length] rfl).2 1 _ rfl
  simp only [hoff,Nat.zero_mul,Nat.zero_add]at q1
  have hx1: ∃cap,x1= .slice (some ⟨(ρ sb).blk,0,none⟩) l.length cap∧l.length≤cap∧cap≤(ρ sb).cap:=by
   exact Xg
  obtain⟨cap,rfl,hn,hcp⟩:=hx1
  refine(hstr (ρ st).blk (ρ sb).blk c cap l w q1 s1 h0 hn zd h63 (fun j x hj=>by
   obtain⟨u,u1,_,u3⟩:=(hrows1 j [.int .u8 x.toNat] (by simp [C2,hj])).2 0 _ rfl
   have:=u3.int_inv
   subst this
   simpa [hoff1]using u1)).mono ?_
  rintro e' w' ⟨rfl,rfl⟩
  have hother: ∀y,y≠(ρ sb).blk→(w.drew.freeze ⟨(ρ sb).blk,0,none⟩ l.length).heap[y]? =w.heap[y]? :=by
   exact Yl
  have hsize:(w.drew.freeze ⟨(ρ sb).blk,0,none⟩ l.length).heap.size=w.heap.size:=by
   exact KM
  have hwd:Wd w (w.drew.freeze ⟨(ρ sb).blk,0,none⟩ l.length):=⟨by rw [hsize];exact Nat.le_refl _,by unfold World.freeze;split<;>rfl,by unfold World.freeze;split<;>rfl⟩
  have hown: ∀y,¬Own ρ [(nb,sb,Blk.tb e 1 (C2 l)),(b,st,.tb T 2 [[a,.sl nb sb 0 l.length]])] y→y≠(ρ sb).blk:=fun y hy h=>hy ⟨_,hm1,hc1,h.symm⟩
  have hno: ∀y,¬Own ρ ([]:A2) y:=fun y ⟨e,he,_⟩=>by cases he
  have hx:Ext (A4 w O ρ n [(nb,sb,Blk.tb e 1 (C2 l)),(b,st,.tb T 2 [[a,.sl nb sb 0 l.length]])]) (A4 (w.drew.freeze ⟨(ρ sb).blk,0,none⟩ l.length) O ρ n []):=
   ⟨rfl,Nat.le_refl _,fun _ _=>rfl,hwd,fun y _ ho=>⟨hother y (hown y ho),hno y⟩⟩
  refine⟨_,_,_,n,ρ,rfl,⟨rfl,rfl,rfl⟩,⟨by simp,by simp,fun y hy=>by rw [hsize];exact hr.out y hy,by simp,by simp,hr.gl.mono hx.imm⟩,.str l,hx⟩
theorem C4w{w:World}{g n:Nat}{cs:Array Value}{T lo hi:Nat}(hn:n≠0)(h:w.heap[g]? =some (.cells cs T (lo,hi))):
  ∃hi',n≤hi'∧(w.freeze ⟨g,0,none⟩ n).heap[g]? =some (.cells cs T (0,hi')):=by
 unfold World.freeze
 rw [if_neg hn]
 simp only [Array.getElem?_modify,if_pos,h,Option.map_some]
 by_cases hl:lo==hi
 ·rw [if_pos hl];exact⟨0+n,by omega,rfl⟩
 ·rw [if_neg hl];exact⟨max hi (0+n),by omega,by simp⟩
theorem B9A{w:World}{g n:Nat}{cs:Array Value}{T hi:Nat}(hn:n≤hi)(h:w.heap[g]? =some (.cells cs T (0,hi))):w.freeze ⟨g,0,none⟩ n=w:=by
 unfold World.freeze
 by_cases h0:n=0
 ·rw [if_pos h0]
 rw [if_neg h0]
 have e:w.heap.modify g (fun o=>match o with
   | .cells c elem (lo,hi)=> .cells c elem (if lo==hi then(0,0+n)else(min lo 0,max hi (0+n)))
   |o=>o)=w.heap:=by
  apply Array.ext_getElem?
  intro i
  rw [Array.getElem?_modify]
  by_cases hi0:g=i
  ·subst hi0
   rw [if_pos rfl,h]
   simp only [Option.map_some]
   have e1:(0==hi)=false:=by simp;omega
   rw [e1]
   simp
   omega
  ·rw [if_neg hi0]
 exact congrArg (fun x=>{w with heap:=x}) e
theorem B7G{T e:Nat}{f:FuncId}(hstr: ∀(b g c cap:Nat) (l:List UInt8) (w:World),w.cell? ⟨b,1,none⟩=some (.slice (some ⟨g,0,none⟩) l.length cap)→w.shape? g=some (e,c)→l≠ []→l.length≤cap→cap≤c→l.length≤9223372036854775807→
   (∀j x,l[j]? =some x→w.cell? ⟨g,j,none⟩=some (.int .u8 x.toNat))→Calls P f #[.pointer (some ⟨b,0,none⟩)] w fun e w'=>e= .returned (.string ⟨l.toArray⟩)∧w'=w.drew.freeze ⟨g,0,none⟩ l.length)
  (b st nb sb n:Nat) (a:V) (l:List UInt8) (hne:nb≠b) (h0:l≠ []) (h63:l.length≤9223372036854775807):
  A0 P f [.ptr b st 0 0] [(nb,sb,.tb e 1 (C2 l)),(b,st,.tb T 2 [[a,.sl nb sb 0 l.length]])] n fun r h' n'=>r= .str l∧h'= [(nb,sb,.fz e (l.map fun x=> .int .u8 x.toNat)),(b,st,.tb T 2 [[a,.sl nb sb 0 l.length]])]∧n'=n:=by
 intro w O ρ cargs hr hR
 obtain⟨hl,hR⟩:=hR
 obtain⟨cs⟩:=cargs
 match cs,hl with
 | [v],_=>
  obtain⟨hst,hv⟩:=(hR 0 _ v rfl rfl).ptr_inv
  have hm1:(nb,sb,Blk.tb e 1 (C2 l))∈ [(nb,sb,Blk.tb e 1 (C2 l)),(b,st,.tb T 2 [[a,.sl nb sb 0 l.length]])]:=List.mem_cons_self
  have hm2:(b,st,Blk.tb T 2 [[a,.sl nb sb 0 l.length]])∈ [(nb,sb,Blk.tb e 1 (C2 l)),(b,st,.tb T 2 [[a,.sl nb sb 0 l.length]])]:=by simp
  obtain⟨⟨hsz,hlen,hcell,hrows⟩,hoff,hsh⟩:=hr.blk _ hm2
  obtain⟨⟨hsz1,hlen1,hcell1,hrows1⟩,hoff1,hsh1⟩:=hr.blk _ hm1
  simp only at hsz hlen hcell hrows hoff hsh hsz1 hlen1 hcell1 hrows1 hoff1 hsh1
  have hsl:(C2 l).length=l.length:=by simp [C2]
  have hpos:0<l.length:=List.length_pos_iff.2 h0
  have hc1:(ρ sb).cap≠0:=by omega
  obtain⟨c,s1,s2,_⟩:=hsh1 hc1
  have hvv:v= .pointer (some ⟨(ρ st).blk,0,none⟩):=by rw [hv];simp [hoff]
  subst hvv
  obtain⟨x1,q1,_,q3⟩:=(hrows 0 [a,.sl nb sb 0 l.length] rfl).2 1 _ rfl
  simp only [hoff,Nat.zero_mul,Nat.zero_add]at q1
  have hx1: ∃cap,x1= .slice (some ⟨(ρ sb).blk,0,none⟩) l.length cap∧l.length≤cap∧cap≤(ρ sb).cap:=by
   exact Xg
  obtain⟨cap,rfl,hn,hcp⟩:=hx1
  have hbytes: ∀j x,l[j]? =some x→w.cell? ⟨(ρ sb).blk,j,none⟩=some (.int .u8 x.toNat):=fun j x hj=>by
   obtain⟨u,u1,_,u3⟩:=(hrows1 j [.int .u8 x.toNat] (by simp [C2,hj])).2 0 _ rfl
   have:=u3.int_inv
   subst this
   simpa [hoff1]using u1
  refine(hstr (ρ st).blk (ρ sb).blk c cap l w q1 s1 h0 hn zd h63 hbytes).mono ?_
  rintro e' w' ⟨rfl,rfl⟩
  have hother: ∀y,y≠(ρ sb).blk→(w.drew.freeze ⟨(ρ sb).blk,0,none⟩ l.length).heap[y]? =w.heap[y]? :=by
   exact Yl
  have hsize:(w.drew.freeze ⟨(ρ sb).blk,0,none⟩ l.length).heap.size=w.heap.size:=by
   exact KM
  have hwd:Wd w (w.drew.freeze ⟨(ρ sb).blk,0,none⟩ l.length):=⟨by rw [hsize];exact Nat.le_refl _,by unfold World.freeze;split<;>rfl,by unfold World.freeze;split<;>rfl⟩
  obtain⟨cells,lo,hi,hg⟩: ∃cells lo hi,w.heap[(ρ sb).blk]? =some (.cells cells e (lo,hi))∧cells.size=c:=by
   unfold World.shape? at s1
   split at s1
   ·rename_i cc el fr hh
    simp only [Option.some.injEq,Prod.mk.injEq]at s1
    obtain⟨rfl,rfl⟩:=s1
    exact⟨cc,fr.1,fr.2,hh,rfl⟩
   ·cases s1
  obtain⟨hg,hcs⟩:=hg
  have hd:w.drew.heap[(ρ sb).blk]? =some (.cells cells e (lo,hi)):=hg
  obtain⟨hi',hh1,hh2⟩:=C4w (n:=l.length) zd hd
  have key:=HeapR.step (w':=w.drew.freeze ⟨(ρ sb).blk,0,none⟩ l.length) (ρ':=ρ) (n':=n) (b:=nb) (st:=sb) (x:= .fz e (l.map fun x=> .int .u8 x.toNat)) hr (Nat.le_refl _) (fun _ _=>rfl) (hr.lt _ hm1) hwd
   (fun y _ hy=>hother y fun h=>hc1 (hy h)) (.inr (.inr ⟨_,hm1,rfl,hc1,rfl⟩)) (fun _=>⟨hc1,hoff1,cells,hi',hh2,by rw [hcs];simpa using s2,by rw [List.length_map];exact hh1,fun j x hj=>by
     rw [List.getElem?_map]at hj
     obtain⟨y,h1,rfl⟩:=Option.map_eq_some_iff.1 hj
     have:=hbytes j y h1
     simpa [World.cell?,hg]using this⟩)
  have hput:A2.put [(nb,sb,Blk.tb e 1 (C2 l)),(b,st,.tb T 2 [[a,.sl nb sb 0 l.length]])] nb sb (.fz e (l.map fun x=> .int .u8 x.toNat))= [(nb,sb,.fz e (l.map fun x=> .int .u8 x.toNat)),(b,st,.tb T 2 [[a,.sl nb sb 0 l.length]])]:=by
   have hb:Nat.beq b nb=false:=by
    cases h:Nat.beq b nb with
    |false=>rfl
    |true=>exact absurd (Nat.eq_of_beq_eq_true h).symm hne
   simp [A2.put,A2.del,hb,Nat.beq_refl]
  rw [hput]at key
  exact⟨_,_,_,n,ρ,rfl,⟨rfl,rfl,rfl⟩,key.1,.str l,key.2⟩
theorem B6d{T e:Nat}{f:FuncId}(hstr: ∀(b g c cap:Nat) (l:List UInt8) (w:World),w.cell? ⟨b,1,none⟩=some (.slice (some ⟨g,0,none⟩) l.length cap)→w.shape? g=some (e,c)→l≠ []→l.length≤cap→cap≤c→l.length≤9223372036854775807→
   (∀j x,l[j]? =some x→w.cell? ⟨g,j,none⟩=some (.int .u8 x.toNat))→Calls P f #[.pointer (some ⟨b,0,none⟩)] w fun e w'=>e= .returned (.string ⟨l.toArray⟩)∧w'=w.drew.freeze ⟨g,0,none⟩ l.length)
  (b st nb sb n:Nat) (a:V) (l:List UInt8) (h0:l≠ []) (h63:l.length≤9223372036854775807):
  A0 P f [.ptr b st 0 0] [(nb,sb,.fz e (l.map fun x=> .int .u8 x.toNat)),(b,st,.tb T 2 [[a,.sl nb sb 0 l.length]])] n fun r h' n'=>r= .str l∧h'= []∧n'=n:=by
 intro w O ρ cargs hr hR
 obtain⟨hl,hR⟩:=hR
 obtain⟨cs⟩:=cargs
 match cs,hl with
 | [v],_=>
  obtain⟨hst,hv⟩:=(hR 0 _ v rfl rfl).ptr_inv
  have hm1:(nb,sb,Blk.fz e (l.map fun x=> .int .u8 x.toNat))∈ [(nb,sb,Blk.fz e (l.map fun x=> .int .u8 x.toNat)),(b,st,.tb T 2 [[a,.sl nb sb 0 l.length]])]:=List.mem_cons_self
  have hm2:(b,st,Blk.tb T 2 [[a,.sl nb sb 0 l.length]])∈ [(nb,sb,Blk.fz e (l.map fun x=> .int .u8 x.toNat)),(b,st,.tb T 2 [[a,.sl nb sb 0 l.length]])]:=by simp
  obtain⟨⟨hsz,hlen,hcell,hrows⟩,hoff,hsh⟩:=hr.blk _ hm2
  obtain⟨hc1,hoff1,cells,hi,hg,hcs,hlh,hvals⟩:=hr.blk _ hm1
  simp only at hsz hlen hcell hrows hoff hsh hc1 hoff1 hg hcs hlh hvals
  rw [List.length_map]at hlh
  have hpos:0<l.length:=List.length_pos_iff.2 h0
  have hvv:v= .pointer (some ⟨(ρ st).blk,0,none⟩):=by rw [hv];simp [hoff]
  subst hvv
  obtain⟨x1,q1,_,q3⟩:=(hrows 0 [a,.sl nb sb 0 l.length] rfl).2 1 _ rfl
  simp only [hoff,Nat.zero_mul,Nat.zero_add]at q1
  have hx1: ∃cap,x1= .slice (some ⟨(ρ sb).blk,0,none⟩) l.length cap∧l.length≤cap∧cap≤(ρ sb).cap:=by
   exact Xg
  obtain⟨cap,rfl,hn,hcp⟩:=hx1
  refine(hstr (ρ st).blk (ρ sb).blk cells.size cap l w q1 (by simp [World.shape?,hg]) h0 hn zd h63 fun j x hj=> ?_).mono ?_
  ·have:=hvals j (.int .u8 x.toNat) (by rw [List.getElem?_map,hj];rfl)
   simpa [World.cell?,hg]using this
  rintro e' w' ⟨rfl,rfl⟩
  rw [B9A (w:=w.drew) hlh hg]
  obtain⟨k1,k2⟩:=hr.drop (h':= []) zg
  have hx:Ext (A4 w O ρ n []) (A4 w.drew O ρ n []):=⟨rfl,Nat.le_refl _,fun _ _=>rfl,⟨Nat.le_refl _,rfl,rfl⟩,fun y _ ho=>⟨rfl,ho⟩⟩
  exact⟨_,_,_,n,ρ,rfl,⟨rfl,rfl,rfl⟩,⟨by simp,by simp,k1.out,by simp,by simp,k1.gl.mono hx.imm⟩,.str l,k2.trans hx⟩
end Go.Abs
namespace Go.Proofs
open Go Go.Shelf Go.RowKit
variable {P:Program} {ρ:Ren}
set_option maxHeartbeats 2000000 in
theorem P3(L:Lays.n169 P ρ)(X:Builder.Extra P ρ)(b g c cap:Nat)(l:List UInt8)(w:World)(h1:w.cell? ⟨b,1,none⟩=some (.slice (some ⟨g,0,none⟩) l.length cap))(hsh:w.shape? g=some ((ρ.t 5),c))(h0:l≠ [])
  (hn:l.length≤cap) (hcc:cap≤c) (h63:l.length≤9223372036854775807) (hcell: ∀j x,l[j]? =some x→w.cell? ⟨g,j,none⟩=some (.int .u8 x.toNat)):
  Calls P (ρ.f 169) #[.pointer (some ⟨b,0,none⟩)] w fun e w'=>e= .returned (.string ⟨l.toArray⟩)∧w'=w.drew.freeze ⟨g,0,none⟩ l.length:=by
 have hpos:0<l.length:=List.length_pos_iff.2 h0
 have c1:w.drew.cell? ⟨b,1,none⟩=some (.slice (some ⟨g,0,none⟩) l.length cap):=h1
 have hSD:(Builtin.unsafeSliceData_ #[(ρ.t 37)] (ρ.t 127) #[.slice (some ⟨g,0,none⟩) l.length cap]).run P w.drew= .ok (.pointer (some ⟨g,0,none⟩)) w.drew:=
  Lib.run_unsafeSliceData_row _ _ _ _ _ _ zd
 have hUS:(Builtin.unsafeString_ #[(ρ.t 127),(ρ.t 3)] (ρ.t 9) #[.pointer (some ⟨g,0,none⟩),.int .i64 l.length]).run P w.drew= .ok (.string ⟨l.toArray⟩) (w.drew.freeze ⟨g,0,none⟩ l.length):=by
  refine Lib.run_unsafeString_row w.drew (ρ.t 127) (ρ.t 3) (ρ.t 9) (ρ.t 5) L.t127 X.cellsByte g c hsh l h0 zd h63 ?_
  intro j x hx
  have e:(⟨g,0,none⟩:Addr).add j=⟨g,j,none⟩:=by unfold Addr.add;by_cases hj:j=0<;>simp [hj]
  rw [e]
  exact hcell j x hx
 have mixed:=L.mixed
 have t72:=L.t72;have a72:=L.a72;have z72:=L.z72;have v72:=L.v72;have u72:=run_underlying L.t72
 have t70:=L.t70;have a70:=L.a70;have z70:=L.z70;have v70:=L.v70;have u70:=run_underlying L.t70
 have t37:=L.t37;have a37:=L.a37;have z37:=L.z37;have v37:=L.v37;have u37:=run_underlying L.t37
 have t127:=L.t127;have a127:=L.a127;have z127:=L.z127;have v127:=L.v127;have u127:=run_underlying L.t127
 have t3:=L.t3;have a3:=L.a3;have z3:=L.z3;have v3:=L.v3;have u3:=run_underlying L.t3
 have t9:=L.t9;have a9:=L.a9;have z9:=L.z9;have v9:=L.v9;have u9:=run_underlying L.t9
 have t5:=X.t5;have a5:=X.a5;have z5:=X.z5;have v5:=X.v5;have u5:=run_underlying X.t5
 go_enter L.f169,Body.n169_ntmps ρ
 go_wp2
 go_region_o
 all_goals (go_wp2;go_ret;exact⟨rfl,rfl⟩)
end Go.Proofs
