/-
 Functions of the library, by the shelf's contracts: strings.Split, strconv.Itoa, strconv.Atoi. No condition.
-/
import Derived.Test.YtflobbpcabopjaaGreatDoorExe
import Derived.Test.YtflobbpcabopjaaGreatDoorShelf
import Derived.Test.YtflobbpcabopjaaGreatDoorOpcM
import Derived.Lib.LaidTab
import Derived.ChangeBears2
set_option linter.unusedVariables false namespace Go.Proofs.YtflobbpcabopjaaGreatDoor
open Go Go.Abs
theorem B1M{E:Env}(h:GlR E){g:Nat}{c:List V}(hg:B1Y B1N g=some c)(j:Nat)(v:V)(hj:c[j]? =some v): ∃x,E.w.cell? ⟨g,j,none⟩=some x∧R (A2Y E.w fun x=>E.own x∨E.O x) v x:=by
 obtain⟨x,h1,_,_,_,h2⟩:=(h _ (A9C hg)).2 j v hj
 exact⟨x,h1,h2⟩
theorem C1C{E:Env}(h:GlR E){g:Nat}{k:IntKind}{zs:List Int}{name:String}(hg:B1Y B1N g=some (zs.map (V.int k)))(hn:Tryz.prog.globalNamed name=some g):Lib.TabIs Tryz.prog E.w name k zs:=by
 have hm:=A9C hg
 obtain⟨cs,t,z,hh,hl,_,_⟩:=(h _ hm).1
 simp only [List.length_map]at hl hh
 have:cs=(zs.map fun z=>Value.int k z).toArray:=by
  refine Array.ext zy fun i h1 h2=> ?_
  have hi:i<zs.length:=by omega
  obtain⟨x,q1,_,_,_,q2⟩:=(h _ hm).2 i (.int k zs[i]) (by simp [hi])
  have e:=q2.int_inv
  subst e
  have hc:E.w.cell? ⟨g,i,none⟩=cs[i]? :=by
   have hv:E.w.var? Tryz.prog name=some cs:=by unfold World.var?;rw [hn];simp [hh]
   exact var?_cell hn hv i
  simp only at q1
  rw [hc,Array.getElem?_eq_getElem h1]at q1
  injection q1 with q1
  rw [q1];simp
 unfold Lib.TabIs World.var?
 rw [hn,←this]
 simp [hh]
def A9o(s:List UInt8):List (List UInt8):=(Lib.splitB ⟨#[32]⟩ 0 (Lib.countB ⟨s.toArray⟩ ⟨#[32]⟩) ⟨s.toArray⟩).map fun b=>b.data.toList
theorem B5Y(s:List UInt8)(hs:s.length≤100000):Abs.Pure Tryz.prog 193 [.str s,.str [32]] (.isl ((A9o s).map fun x=> [.str x])):=by
 intro w O cargs hO hgl hR
 obtain⟨hl,hR⟩:=hR
 obtain⟨cs⟩:=cargs
 match cs,hl with
 | [a,b],_=>
  have ha:a= .string ⟨s.toArray⟩:=by have:=hR 0 _ a rfl rfl;cases this;rfl
  have hb:b= .string ⟨#[32]⟩:=by have:=hR 1 _ b rfl rfl;cases this;rfl
  subst ha;subst hb
  obtain⟨x,hx,hxr⟩:=B1M hgl (g:=0) (c:= [.anyi .i64]) zh 0 (.anyi .i64) rfl
  obtain⟨m,rfl⟩: ∃m,x= .int .i64 m:=by cases hxr;exact⟨_,rfl⟩
  refine(Tryz.strings_Split ⟨s.toArray⟩ ⟨#[32]⟩ m w zZ hx zf).mono ?_
  rintro e w' ⟨rfl,rfl⟩
  have hlen:(Lib.splitB ⟨#[32]⟩ 0 (Lib.countB ⟨s.toArray⟩ ⟨#[32]⟩) ⟨s.toArray⟩).length=Lib.countB ⟨s.toArray⟩ ⟨#[32]⟩+1:=Lib.splitB_all _ zf _ _ _ rfl
  refine⟨_,rfl,?_,Wd.alloc _ _,fun x hx=>by simp [World.alloc,Array.getElem?_push,Nat.ne_of_lt hx, -World.alloc_eq]⟩
  have hsl:A9o s=(Lib.splitB ⟨#[32]⟩ 0 (Lib.countB ⟨s.toArray⟩ ⟨#[32]⟩) ⟨s.toArray⟩).map fun b=>b.data.toList:=rfl
  generalize Lib.splitB ⟨#[32]⟩ 0 (Lib.countB ⟨s.toArray⟩ ⟨#[32]⟩) ⟨s.toArray⟩=bs at*
  generalize Lib.countB ⟨s.toArray⟩ ⟨#[32]⟩=n at*
  have hrl:((A9o s).map fun x=> [V.str x]).length=n+1:=by rw [hsl];simpa using hlen
  have hrow: ∀(i:Nat) row,((A9o s).map fun x=> [V.str x])[i]? =some row→ ∃b,bs[i]? =some b∧row= [.str b.data.toList]:=by
   intro i row hi
   rw [hsl,List.map_map,List.getElem?_map,Option.map_eq_some_iff]at hi
   obtain⟨b,h1,h2⟩:=hi
   exact⟨b,h1,h2.symm⟩
  have hcell: ∀(i:Nat) b,bs[i]? =some b→(w.alloc (.cells (bs.map Value.string).toArray 9)).cell? ⟨w.heap.size,0+i*1+0,none⟩=some (.string b):=by
   intro i b hb
   rw [Nat.zero_add,Nat.mul_one,Nat.add_zero]
   simp [World.cell?,World.alloc,hb, -World.alloc_eq]
  have key:=R.isl (E:=A2Y (w.alloc (.cells (bs.map Value.string).toArray 9)) O) ((A9o s).map fun x=> [V.str x]) ⟨w.heap.size,0,none⟩ (n+1) 1 (fun i _=>(bs[i]?).elim Go.undef Value.string) rfl zd (fun i row hi=>by
   obtain⟨b,_,rfl⟩:=hrow i row hi;rfl) (fun i row j c hi hj=>by
   obtain⟨b,hb,rfl⟩:=hrow i row hi
   have hj0:j=0:=by cases j with|zero=>rfl|succ j=>simp at hj
   subst hj0
   refine⟨by rw [hb];exact hcell i b hb,by rw [hb];rfl,fun h=>h,fun h=>Nat.lt_irrefl _ (hO _ h)⟩) (fun i row j c hi hj=>by
   obtain⟨b,hb,rfl⟩:=hrow i row hi
   have hj0:j=0:=by cases j with|zero=>rfl|succ j=>simp at hj
   subst hj0
   simp at hj
   subst hj
   rw [hb]
   exact .str b.data.toList)
  rw [hrl]at key
  exact key
theorem D7(n:Int)(h0: -9223372036854775808≤n)(h1:n≤9223372036854775807):Abs.Pure Tryz.prog 45 [.int .i64 n] (.str (Lib.itoa n)):=by
 intro w O cargs hO hgl hR
 obtain⟨hl,hR⟩:=hR
 obtain⟨cs⟩:=cargs
 match cs,hl with
 | [a],_=>
  have ha:=(hR 0 _ a rfl rfl).int_inv
  subst ha
  refine(Tryz.strconv_Itoa n h0 h1 w (C1C hgl (g:=1) zh zh)).mono ?_
  rintro e w' ⟨rfl,k,os,rfl⟩
  exact⟨_,rfl,.str _,⟨by simp [Sort.grow,World.drewN],by simp [Sort.grow,World.drewN],by simp [Sort.grow,World.drewN]⟩,fun x hx=>by simp [Sort.grow,World.drewN,Array.getElem?_append_left hx]⟩
theorem B6D(s:List UInt8)(hs:s.length≤100000)(v:Int)(h:Lib.atoiAll s= .ok v):Abs.Pure Tryz.prog 152 [.str s] (.tup [.int .i64 v,.cst .nilIface]):=by
 intro w O cargs hO hgl hR
 obtain⟨hl,hR⟩:=hR
 obtain⟨cs⟩:=cargs
 match cs,hl with
 | [a],_=>
  have ha:a= .string ⟨s.toArray⟩:=by have:=hR 0 _ a rfl rfl;cases this;rfl
  subst ha
  refine(Tryz.strconv_Atoi_ok ⟨s.toArray⟩ zZ v zp w).mono ?_
  rintro e w' ⟨rfl,hw⟩
  have hR2: ∀E:Env,R E (.tup [.int .i64 v,.cst .nilIface]) (.tuple #[.int .i64 v,.nilIface]):=fun E=> .tup _ _ rfl (fun i c v hc hv=>by
   match i with
   |0=>simp at hc hv;subst hc;subst hv;exact .int _ _
   |1=>simp at hc hv;subst hc;subst hv;exact .cst _
   |i+2=>simp at hc)
  rcases hw with rfl|⟨t,rfl⟩
  ·exact⟨_,rfl,hR2 _,Wd.refl _,fun _ _=>rfl⟩
  ·exact⟨_,rfl,hR2 _,⟨by rw [Lib.bytesWorld_size];exact Nat.le_succ _,by simp [Lib.bytesWorld,World.freeze,World.alloc,World.drew, -World.alloc_eq, -World.drew_eq],by simp [Lib.bytesWorld,World.freeze,World.alloc,World.drew, -World.alloc_eq, -World.drew_eq]⟩,fun x hx=>Lib.bytesWorld_at_old _ _ _ x hx⟩
end Go.Proofs.YtflobbpcabopjaaGreatDoor
