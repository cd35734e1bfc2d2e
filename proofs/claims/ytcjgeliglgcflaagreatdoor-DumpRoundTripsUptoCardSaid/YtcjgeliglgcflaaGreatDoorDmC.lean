/-
 The checksum: what it is, and that one changed byte changes it. No condition.
-/
import Derived.Test.YtcjgeliglgcflaaGreatDoorDmF
set_option linter.unusedVariables false
set_option linter.unusedSimpArgs false
set_option maxRecDepth 100000
set_option maxHeartbeats 0
namespace Go.Proofs.YtcjgeliglgcflaaGreatDoor
open Go Go.Abs
attribute [local irreducible] A3 Run
def A1p(s c:Int):Int:=IntKind.u32.wrap (S2 .xor .u32 s (IntKind.u32.wrap c)*16777619)
def A1x(zs:List Int):Int:=zs.foldl A1p 2166136261
theorem C0v{zs:List Int}{k:Nat}{z:Int}(h:zs[k]? =some z):A1x (zs.take (k+1))=A1p (A1x (zs.take k)) z:=by
 unfold A1x
 rw [List.take_add_one,h,List.foldl_append]
 rfl
theorem B2G(zs:List Int)(hl:zs.length≤reachBytes):Pure Tryz.prog 15 [.isl (zs.map fun z=> [.int .u8 z])] (.int .u32 (A1x zs)):=by
 have hlZ:(zs.map fun z=> [V.int .u8 z]).length=zs.length:=List.length_map ..
 have hrZ: ∀(k:Nat) z,zs[k]? =some z→(zs.map fun z=> [V.int .u8 z])[k]? =some [.int .u8 z]:=fun k x h=>by rw [List.getElem?_map,h];rfl
 have hzZ:C4 (zs.map fun z=> [V.int .u8 z]) 1=True:=eq_true (fun r hr=>by obtain⟨y,_,rfl⟩:=List.mem_map.1 hr;rfl)
 generalize (zs.map fun z=> [V.int .u8 z])=ZR at*
 have hrb:reachBytes≤200000000000000:=by decide
 refine Pure.of 0 (A3.enter B0m (Nat.le_of_ble_eq_true rfl) (Run.go 100 ?_))
 simp -implicitDefEqProofs only [go_sem,A8,hlZ]
 refine Run.rounds (fun(k:Nat)=>⟨[(8,.int .i64 k),(7,.int .i64 zs.length),(6,.isl ZR),(3,.int .u32 (A1x (zs.take k)))],[],0⟩) (fun k=>k≤zs.length) (fun k=>zs.length-k) 0 (by first|(simp -implicitDefEqProofs only [go_sem];done)|(simp -implicitDefEqProofs only [go_sem];simp [A1x])) (Nat.zero_le _) ?_
 intro k hk ih
 refine Run.unf B1G (Run.go 100 ?_)
 by_cases c:(k:Int)<zs.length
 ·obtain⟨z,hz⟩: ∃z,zs[k]? =some z:=⟨zs[k]'(by omega),by simp⟩
  have hzr:=hrZ k z hz
  have k0:((0:Int)≤(k:Int))=True:=eq_true (by omega)
  have k2:(k<zs.length)=True:=eq_true (by omega)
  have hn:=C0v hz
  unfold A1p at hn
  simp -implicitDefEqProofs only [go_sem,c,k0,k2,hlZ,hzZ,hzr,Option.some.injEq,forall_eq']
  exact⟨by omega,ih _ (k+1) (by omega) (by omega) (by first|(simp -implicitDefEqProofs only [go_sem,hn];done)|(simp -implicitDefEqProofs only [go_sem,hn];simp))⟩
 ·obtain rfl:k=zs.length:=by omega
  rw [List.take_length]
  simp -implicitDefEqProofs only [go_sem,c]
def V4(a b c d:Int):Int:=S2 .or .u32 (S2 .or .u32 (S2 .or .u32 (IntKind.u32.wrap a) (shZ true .u32 (IntKind.u32.wrap b) 8)) (shZ true .u32 (IntKind.u32.wrap c) 16)) (shZ true .u32 (IntKind.u32.wrap d) 24)
def le4(s:Int):List Int:= [IntKind.u8.wrap s,IntKind.u8.wrap (shZ false .u32 s 8),IntKind.u8.wrap (shZ false .u32 s 16),IntKind.u8.wrap (shZ false .u32 s 24)]
theorem B7D{k m:Nat}{x y:Nat}(hx:x<2^k)(hk:2^k*m=y)(hy:y<4294967296)(hx2:x<4294967296)(hxy:x+y<4294967296):S2 .or .u32 (x:Int) (y:Int)=(x:Int)+y:=by
 unfold S2
 show IntKind.u32.wrap ((BitVec.ofInt 32 (x:Int)|||BitVec.ofInt 32 (y:Int)).toNat:Int)=_
 rw [BitVec.toNat_or,BitVec.toNat_ofInt,BitVec.toNat_ofInt]
 have e1:((x:Int)%((2^32:Nat):Int)).toNat=x:=by omega
 have e2:((y:Int)%((2^32:Nat):Int)).toNat=y:=by omega
 rw [e1,e2,Nat.or_comm,←hk,←Nat.two_pow_add_eq_or_of_lt hx]
 show ((2^k*m+x:Nat):Int)%(2^32:Int)=_
 rw [hk]
 omega
theorem C0H{a b c d:Int}(ha:0≤a∧a<256)(hb:0≤b∧b<256)(hc:0≤c∧c<256)(hd:0≤d∧d<256):V4 a b c d=a+256*b+65536*c+16777216*d:=by
 obtain⟨a,rfl⟩:=Int.eq_ofNat_of_zero_le ha.1
 obtain⟨b,rfl⟩:=Int.eq_ofNat_of_zero_le hb.1
 obtain⟨c,rfl⟩:=Int.eq_ofNat_of_zero_le hc.1
 obtain⟨d,rfl⟩:=Int.eq_ofNat_of_zero_le hd.1
 have w: ∀z:Nat,z<4294967296→IntKind.u32.wrap (z:Int)=(z:Int):=fun z hz=>by show (z:Int)%(2^32:Int)=z;omega
 have s8: ∀z:Nat,z<256→shZ true .u32 (z:Int) 8=((2^8*z:Nat):Int):=fun z hz=>by show (((z:Int)*2^8)%(2^32:Int))=_;omega
 have s16: ∀z:Nat,z<256→shZ true .u32 (z:Int) 16=((2^16*z:Nat):Int):=fun z hz=>by show (((z:Int)*2^16)%(2^32:Int))=_;omega
 have s24: ∀z:Nat,z<256→shZ true .u32 (z:Int) 24=((2^24*z:Nat):Int):=fun z hz=>by show (((z:Int)*2^24)%(2^32:Int))=_;omega
 have ha:=ha.2;have hb:=hb.2;have hc:=hc.2;have hd:=hd.2
 unfold V4
 rw [w a (by omega),w b (by omega),w c (by omega),w d (by omega),s8 b (by omega),s16 c (by omega),s24 d (by omega)]
 rw [B7D (k:=8) (m:=b) (by omega) rfl (by omega) (by omega) (by omega),←Int.natCast_add]
 rw [B7D (k:=16) (m:=c) (by omega) rfl (by omega) (by omega) (by omega),←Int.natCast_add]
 rw [B7D (k:=24) (m:=d) (by omega) rfl (by omega) (by omega) (by omega),←Int.natCast_add]
 omega
theorem C1C{s:Int}(hs:0≤s∧s<4294967296): ∃a b c d,le4 s= [a,b,c,d]∧(0≤a∧a<256)∧(0≤b∧b<256)∧(0≤c∧c<256)∧(0≤d∧d<256)∧a+256*b+65536*c+16777216*d=s:=by
 refine⟨s%256,s/256%256,s/65536%256,s/16777216%256,?_,by omega,by omega,by omega,by omega,by omega⟩
 have f: ∀k:Nat,s.fdiv ((2:Int)^k)=s/2^k:=fun k=>Int.fdiv_eq_ediv_of_nonneg _ (by exact_mod_cast Nat.zero_le (2^k))
 unfold le4
 rw [show shZ false .u32 s 8=s/256 from f 8,show shZ false .u32 s 16=s/65536 from f 16,show shZ false .u32 s 24=s/16777216 from f 24]
 rfl
def B2B(s c:BitVec 32):BitVec 32:=(s^^^c)*16777619#32
theorem C7J(a:Int):IntKind.u32.wrap a=((BitVec.ofInt 32 a).toNat:Int):=by
 rw [BitVec.toNat_ofInt]
 show a%(2^32:Int)=_
 have h:0≤a%((2^32:Nat):Int):=Int.emod_nonneg _ (by decide)
 rw [Int.toNat_of_nonneg h]
 rfl
theorem B0z(x:BitVec 32):BitVec.ofInt 32 (x.toNat:Int)=x:=by
 apply BitVec.eq_of_toNat_eq
 rw [BitVec.toNat_ofInt]
 have:=x.isLt
 omega
theorem D1h(x:BitVec 32):BitVec.ofInt 32 ((x.toNat:Int)*16777619)=x*16777619#32:=by
 apply BitVec.eq_of_toNat_eq
 rw [BitVec.toNat_ofInt,BitVec.toNat_mul,BitVec.toNat_ofNat]
 generalize x.toNat=n
 have h:((n:Int)*16777619)%((2^32:Nat):Int)=((n*16777619%2^32:Nat):Int):=by rw [Int.natCast_emod,Int.natCast_mul];rfl
 rw [h,Int.toNat_natCast,Nat.mod_eq_of_lt (show 16777619<2^32 by decide)]
theorem A6M(s c:Int):A1p s c=((B2B (BitVec.ofInt 32 s) (BitVec.ofInt 32 c)).toNat:Int):=by
 unfold A1p B2B S2
 simp only [C7J]
 rw [show IntKind.u32.bits=32 from rfl,B0z,B0z,D1h]
theorem B7W{s s' c:BitVec 32}(h:B2B s c=B2B s' c):s=s':=by
 have h2:((s^^^c)*16777619#32)*899433627#32=((s'^^^c)*16777619#32)*899433627#32:=by rw [show (s^^^c)*16777619#32=(s'^^^c)*16777619#32 from h]
 rw [BitVec.mul_assoc,BitVec.mul_assoc,show (16777619#32*899433627#32)=1#32 by decide,BitVec.mul_one,BitVec.mul_one]at h2
 have h3:(s^^^c)^^^c=(s'^^^c)^^^c:=by rw [h2]
 simpa [BitVec.xor_assoc]using h3
theorem B6G{s c c':BitVec 32}(h:B2B s c=B2B s c'):c=c':=by
 have h2:((s^^^c)*16777619#32)*899433627#32=((s^^^c')*16777619#32)*899433627#32:=by rw [show (s^^^c)*16777619#32=(s^^^c')*16777619#32 from h]
 rw [BitVec.mul_assoc,BitVec.mul_assoc,show (16777619#32*899433627#32)=1#32 by decide,BitVec.mul_one,BitVec.mul_one]at h2
 have h3:s^^^(s^^^c)=s^^^(s^^^c'):=by rw [h2]
 simpa [←BitVec.xor_assoc]using h3
theorem B3P{a b:Int}(ha:0≤a∧a<4294967296)(hb:0≤b∧b<4294967296)(h:BitVec.ofInt 32 a=BitVec.ofInt 32 b):a=b:=by
 have h2:=congrArg BitVec.toNat h
 rw [BitVec.toNat_ofInt,BitVec.toNat_ofInt]at h2
 omega
theorem A0O(s c:Int):0≤A1p s c∧A1p s c<4294967296:=by
 rw [A6M]
 have:=(B2B (BitVec.ofInt 32 s) (BitVec.ofInt 32 c)).isLt
 omega
theorem B7X{s s' c:Int}(hs:0≤s∧s<4294967296)(hs':0≤s'∧s'<4294967296)(h:A1p s c=A1p s' c):s=s':=by
 rw [A6M,A6M]at h
 exact B3P hs hs' (B7W (BitVec.eq_of_toNat_eq (Int.ofNat.inj h)))
theorem B6I{s c c':Int}(hc:0≤c∧c<4294967296)(hc':0≤c'∧c'<4294967296)(h:A1p s c=A1p s c'):c=c':=by
 rw [A6M,A6M]at h
 exact B3P hc hc' (B6G (BitVec.eq_of_toNat_eq (Int.ofNat.inj h)))
theorem B1K: ∀(l:List Int) (s:Int),0≤s∧s<4294967296→0≤l.foldl A1p s∧l.foldl A1p s<4294967296
 | [],s,h=>h
 |c::r,s,_=>B1K r (A1p s c) (A0O s c)
theorem B3x: ∀(l:List Int) {s s':Int},0≤s∧s<4294967296→0≤s'∧s'<4294967296→l.foldl A1p s=l.foldl A1p s'→s=s'
 | [],s,s',_,_,h=>h
 |c::r,s,s',h1,h2,h=>B7X h1 h2 (B3x r (A0O s c) (A0O s' c) h)
theorem B2F(l:List Int):0≤A1x l∧A1x l<4294967296:=B1K l _ (by decide)
theorem C2x{l:List Int}{k:Nat}{x y:Int}(hx:l[k]? =some x)(hxr:0≤x∧x<256)(hyr:0≤y∧y<256)(hne:y≠x):A1x (l.set k y)≠A1x l:=by
 intro h
 obtain⟨hk,rfl⟩:=List.getElem?_eq_some_iff.1 hx
 have e1:l=l.take k++l[k]::l.drop (k+1):=by rw [List.getElem_cons_drop,List.take_append_drop]
 have e2:l.set k y=l.take k++y::l.drop (k+1):=by
  rw [List.set_eq_take_append_cons_drop,if_pos hk]
 unfold A1x at h
 rw [e2]at h
 conv at h=>rhs;rw [e1]
 rw [List.foldl_append,List.foldl_append,List.foldl_cons,List.foldl_cons]at h
 have:=B3x _ (A0O _ _) (A0O _ _) h
 exact hne (B6I ⟨hyr.1,by omega⟩ ⟨hxr.1,by omega⟩ this)
def isB(z:Int):Prop:=0≤z∧z<256
theorem C5q(z:Int):isB (IntKind.u8.wrap z):=by
 show 0≤z%(2^8:Int)∧z%(2^8:Int)<256
 omega
def K4(l:List Int):Prop:= ∀z∈l,isB z
theorem B4b{l:List Int}(h:(l.all fun z=>decide (0≤z∧z<256))=true):K4 l:=fun z hz=>of_decide_eq_true (p:=0≤z∧z<256) (List.all_eq_true.1 h z hz)
theorem K4.app{a b:List Int}(h1:K4 a)(h2:K4 b):K4 (a++b):=fun z hz=>(List.mem_append.1 hz).elim (h1 z) (h2 z)
theorem K4.flat{α:Type}{f:α→List Int}{l:List α}(h: ∀x∈l,K4 (f x)):K4 (l.flatMap f):=fun z hz=>by
 obtain⟨x,hx,hz⟩:=List.mem_flatMap.1 hz
 exact h x hx z hz
theorem C1M(z:Int): ∀k,K4 (A7o z k)
 |0=>fun _ h=>by cases h
 |k+1=>(C1M z k).app fun w hw=>by
  obtain rfl:=List.mem_singleton.1 hw
  exact C5q _
theorem W7(z:Int):K4 (D8 z):=C1M z 8
theorem B8T(b:Bool):K4 [if b then 1 else 0]:=fun w hw=>by
 obtain rfl:=List.mem_singleton.1 hw
 cases b<;>exact⟨by decide,by decide⟩
theorem B4P(s:List UInt8):K4 (w8 s):=(W7 _).app fun w hw=>by
 obtain⟨u,_,rfl⟩:=List.mem_map.1 hw
 have:=u.toNat_lt
 exact⟨by omega,by omega⟩
theorem B4B(l:List Int):K4 (F4 l):= .flat fun x _=>W7 x
theorem C7E(v:Kst):K4 (T7 v):=by
 unfold T7
 refine .app (fun w hw=>by obtain rfl:=List.mem_singleton.1 hw;exact C5q _) ?_
 split
 ·by_cases h:v.ref=1
  ·rw [if_pos h];exact B4b rfl
  ·rw [if_neg h];exact B4b rfl
 split
 ·exact(W7 _).app (W7 _)
 split
 ·exact B4P _
 ·exact fun _ h=>by cases h
theorem C6d(p:Fn):K4 (W6 p):=by
 induction p using Fn.ind with
 |h p ih=>
 rw [A0w,Y8]
 exact((((((((((((((((B4P _).app (W7 _)).app (W7 _)).app (B8T _)).app (W7 _)).app (W7 _)).app (.flat fun i _=>B4B _)).app (W7 _)).app (B4B _)).app (W7 _)).app (.flat fun v _=>C7E v)).app (W7 _)).app (.flat ih)).app (W7 _)).app (.flat fun u _=>((B4P _).app (B8T _)).app (W7 _))).app (W7 _)).app (.flat fun v _=>(B4P _).app (B4B _))
def A2S(p:Fn):List Int:= [83,67,82,66,1]++W6 p
def B5y(p:Fn):List Int:=A2S p++le4 (A1x (A2S p))
theorem C3d(p:Fn):K4 (A2S p):=K4.app (B4b rfl) (C6d p)
theorem D0w{M:List Int}(hM:K4 M){k:Nat}(hk:k<(M++le4 (A1x M)).length){y:Int}(hy:isB y)(hne:y≠(M++le4 (A1x M))[k]):
  ∃M' a b c d,(M++le4 (A1x M)).set k y=M'++ [a,b,c,d]∧M'.length=M.length∧V4 a b c d≠A1x M':=by
 obtain⟨a,b,c,d,e,ha,hb,hc,hd,hs⟩:=C1C (B2F M)
 simp only [e]at hk hne⊢
 by_cases c0:k<M.length
 ·refine⟨M.set k y,a,b,c,d,List.set_append_left _ _ c0,by simp,?_⟩
  rw [C0H ha hb hc hd,hs]
  rw [List.getElem_append_left c0]at hne
  exact fun h=>C2x (l:=M) (k:=k) (List.getElem?_eq_getElem c0) (hM _ (List.getElem_mem c0)) hy hne h.symm
 ·rw [List.getElem_append_right (by omega)]at hne
  rw [List.set_append_right _ _ (by omega)]
  rw [List.length_append]at hk
  simp only [List.length_cons,List.length_nil]at hk
  obtain h|h|h|h:k-M.length=0∨k-M.length=1∨k-M.length=2∨k-M.length=3:=by omega
  all_goals
   simp only [h]at hne⊢
   simp at hne
   refine⟨M,_,_,_,_,rfl,rfl,?_⟩
   rw [C0H (by first|assumption|exact hy) (by first|assumption|exact hy) (by first|assumption|exact hy) (by first|assumption|exact hy),←hs]
   omega
end Go.Proofs.YtcjgeliglgcflaaGreatDoor
