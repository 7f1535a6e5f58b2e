/- Contracts of functions, and plain facts, part 9. -/
import Derived.Deep.RegionHeld3
import Derived.Deep.LoopGhost
import Derived.Deep.DeepCutAuto
import Derived.Deep.CutBlock
import Derived.Test.YtbcbmkeeoognpaaGreatDoorPk2
import Derived.Test.YtbcbmkeeoognpaaGreatDoorPk3
import Derived.Test.YtbcbmkeeoognpaaGreatDoorPk4
import Derived.Test.YtbcbmkeeoognpaaGreatDoorPk6
import Derived.Test.YtbcbmkeeoognpaaGreatDoorPk7
import Derived.Test.YtbcbmkeeoognpaaGreatDoorPk8
set_option linter.unusedVariables false
set_option linter.unusedSimpArgs false
namespace Go.Proofs.YtbcbmkeeoognpaaGreatDoor
open Go.ChangeShapes Go.WideShapes Go.RowKit
theorem qfq {cs:Array Value} {k:Nat} (h:k+2≤cs.size):(cs.toList.drop k).take 2=[cs[k]'(by omega),cs[k+1]'(by omega)]:=by
 apply List.ext_getElem?
 intro i
 rcases i with _ | _ | i
 ·simp [List.getElem?_take,List.getElem?_drop]
 ·simp [List.getElem?_take,List.getElem?_drop]
 ·simp [List.getElem?_take];omega
theorem qnh {cs:Array Value} {k:Nat} (h:k+1≤cs.size):(cs.toList.drop k).take 1=[cs[k]'(by omega)]:=by
 apply List.ext_getElem?
 intro i
 rcases i with _ | i
 ·simp [List.getElem?_take,List.getElem?_drop]
 ·simp [List.getElem?_take]
theorem qb4:∃f0 f1:Field,Tryz.prog.underlying 52=some (.struct #[f0,f1])∧(f0.type=4∧f0.offset=0)∧(f1.type=23∧f1.offset=1):=
 ⟨_,_,Tryz.underlying52,⟨rfl,rfl⟩,⟨rfl,rfl⟩⟩
theorem qly:Tryz.prog.cellsOf 4=1:=by kernel_rfl
theorem qge:Tryz.prog.cellsOf 23=1:=by kernel_rfl
set_option maxRecDepth 100000 in
theorem Ot {H:Type} {enc:TypeId × Value→H} {W:World} {c0 c1:Value} {n:Nat} {y:DataW H × List MemPlace} {ts:List TypeId} {ds:List (DataW H)} {j:Nat}
  (hsz:(DataW.weightsEach Tryz.prog ts ds).all (· ≤ reachBytes)=true) (ht:ts[j]?=some 52) (hd:ds[j]?=some y.1) (h:DataW.trod enc Tryz.prog W 0 (fun _=>true) true n 52 [c0,c1]=some y) :
  ∃(ng:Bool) (a:Option Addr) (len cap:Nat) (xs:List Int),c0=.bool ng∧c1=.slice a len cap∧Arg W a len cap xs∧len*4≤140737488351232:=by
 obtain ⟨f0,f1,hs,⟨t0,o0⟩,⟨t1,o1⟩⟩:=qb4
 obtain ⟨y0,y1,n,rfl,hl,h0,h1⟩:=trod_struct2 hs h
 rw [o0,t0,qly] at h0
 rw [o1,t1,qge] at h1
 simp at h0 h1
 obtain ⟨ng,e0,-⟩:=DataW.trod_bool Tryz.underlying4 h0
 obtain ⟨a,len,cap,e1⟩:=Go.Joins.slice_form Tryz.underlying23 h1
 injection e0 with e0
 injection e1 with e1
 subst e0 e1
 have hz:(DataW.weightsEach Tryz.prog [4,23] [y0.1,y1.1]).all (· ≤ reachBytes)=true:=by
  rw [List.all_eq_true] at hsz ⊢
  intro x hx
  refine hsz x (DataW.weights_mem_each ht hd x ?_)
  rw [DataW.weights,hs]
  simp only [List.map_cons,List.map_nil,t0,t1]
  exact hx
 have hy:DataW.Trod enc Tryz.prog W 0 (fun _=>true) true 23 (.slice a len cap) y1.1 y1.2:=⟨n,by simpa [Value.cells] using h1⟩
 have w4:=qer hz (j:=1) (t:=23) rfl rfl Tryz.underlying23 Tryz.underlying44 Yy qgc hy
 obtain ⟨zs,hr⟩:∃zs,Nu .u32 W a len cap zs:=by
  rcases open_ints Tryz.underlying23 Tryz.underlying44 Yy h1 with ⟨hcs,_⟩ | ⟨x,l,c,zs,hcs,_,hl,hm,hz,_,hcell,hwz⟩
  ·injection hcs with hcs
   injection hcs with q1 q2 q3
   subst q1 q2 q3
   exact ⟨[],.inl ⟨rfl,rfl,rfl,rfl⟩⟩
  ·injection hcs with hcs
   injection hcs with q1 q2 q3
   subst q1 q2 q3
   exact ⟨zs,.inr ⟨_,rfl,hl,hm,by simpa using hz,hcell,hwz⟩⟩
 exact ⟨ng,a,len,cap,zs.take len,rfl,rfl,⟨hr.le,hr.rds,hr.dig⟩,w4⟩
theorem qdq:∃f0 f1 f2 f3 f4 f5:Field,Tryz.prog.underlying 71=some (.struct #[f0,f1,f2,f3,f4,f5])∧(f0.type=52∧f0.offset=0)∧(f1.type=52∧f1.offset=2)∧(f2.type=52∧f2.offset=4)∧(f3.type=52∧f3.offset=6)∧(f4.type=2∧f4.offset=8)∧(f5.type=9∧f5.offset=9):=
 ⟨_,_,_,_,_,_,Tryz.underlying71,⟨rfl,rfl⟩,⟨rfl,rfl⟩,⟨rfl,rfl⟩,⟨rfl,rfl⟩,⟨rfl,rfl⟩,⟨rfl,rfl⟩⟩
theorem qi1:Tryz.prog.cellsOf 71=10:=by kernel_rfl
theorem qiz:Tryz.prog.cellsOf 2=1:=by kernel_rfl
theorem qi0:Tryz.prog.cellsOf 9=1:=by kernel_rfl
set_option maxRecDepth 100000 in
theorem qkw {H:Type} {enc:TypeId × Value→H} {W:World} {base:Nat} {v:Value} {d:DataW H} {p:List MemPlace} {ts:List TypeId} {ds:List (DataW H)} {j:Nat}
  (hsz:(DataW.weightsEach Tryz.prog ts ds).all (· ≤ reachBytes)=true) (ht:ts[j]?=some 71) (hd:ds[j]?=some d)
  (hv:Value.okWide Tryz.prog W .any base 71 v) (h:DataW.Trod enc Tryz.prog W 0 (fun _=>true) true 71 v d p) :
  ∃gx ax nx cx xx gy ay ny cy xy gu au nu cu xu gv av nv cv xv n s,v=.agg #[.bool gx,.slice ax nx cx,.bool gy,.slice ay ny cy,.bool gu,.slice au nu cu,.bool gv,.slice av nv cv,.int .i64 n,.string s]∧Arg W ax nx cx xx∧nx*4≤140737488351232∧Arg W ay ny cy xy∧ny*4≤140737488351232∧Arg W au nu cu xu∧nu*4≤140737488351232∧Arg W av nv cv xv∧nv*4≤140737488351232 ∧
   (-9223372036854775808≤n∧n<9223372036854775808)∧s.size≤140737488351232∧∀x∈p,x.block<W.heap.size:=by
 have hlt:∀x∈p,x.block<W.heap.size:=by obtain ⟨m,hm⟩:=h;exact DataW.trod_lt m _ _ _ hm
 obtain ⟨f0,f1,f2,f3,f4,f5,hs,⟨t0,o0⟩,⟨t1,o1⟩,⟨t2,o2⟩,⟨t3,o3⟩,⟨t4,o4⟩,⟨t5,o5⟩⟩:=qdq
 obtain ⟨cs,rfl,hcs⟩:=okWide_struct hs hv
 rw [qi1] at hcs
 obtain ⟨fuel,hf⟩:=h
 obtain ⟨xs,q,_,hx,_,hlen,hfs⟩:=DataW.trod_struct hs hf
 have g0:=hfs 0 f0 rfl
 have g1:=hfs 1 f1 rfl
 have g2:=hfs 2 f2 rfl
 have g3:=hfs 3 f3 rfl
 have g4:=hfs 4 f4 rfl
 have g5:=hfs 5 f5 rfl
 match xs,hlen with
 | [y0,y1,y2,y3,y4,y5],_=>
  simp only [Prod.mk.injEq] at hx
  obtain ⟨hxd,-⟩:=hx
  have hz:(DataW.weightsEach Tryz.prog [52,52,52,52,2,9] [y0.1,y1.1,y2.1,y3.1,y4.1,y5.1]).all (· ≤ reachBytes)=true:=by
   rw [List.all_eq_true] at hsz ⊢
   intro x hx
   refine hsz x (DataW.weights_mem_each ht hd x ?_)
   rw [hxd]
   simp only [List.map_cons,List.map_nil]
   rw [DataW.weights,hs]
   simp only [List.map_cons,List.map_nil,t0,t1,t2,t3,t4,t5]
   exact hx
  simp only [Value.cells] at g0 g1 g2 g3 g4 g5
  rw [t0,o0,Og,qfq (by omega)] at g0
  rw [t1,o1,Og,qfq (by omega)] at g1
  rw [t2,o2,Og,qfq (by omega)] at g2
  rw [t3,o3,Og,qfq (by omega)] at g3
  rw [t4,o4,qiz,qnh (by omega)] at g4
  rw [t5,o5,qi0,qnh (by omega)] at g5
  obtain ⟨gx,ax,nx,cx,xx,c0,c1,k0,b0⟩:=Ot hz (j:=0) rfl rfl g0
  obtain ⟨gy,ay,ny,cy,xy,c2,c3,k1,b1⟩:=Ot hz (j:=1) rfl rfl g1
  obtain ⟨gu,au,nu,cu,xu,c4,c5,k2,b2⟩:=Ot hz (j:=2) rfl rfl g2
  obtain ⟨gv,av,nv,cv,xv,c6,c7,k3,b3⟩:=Ot hz (j:=3) rfl rfl g3
  obtain ⟨n,c8,-,w8⟩:=DataW.trod_int Tryz.underlying2 g4
  obtain ⟨s,c9,e9,w9⟩:=DataW.trod_string Tryz.underlying9 g5
  injection c8 with c8
  have hy5:y5.1=.lit (.string s.data.toList):=by rw [e9]
  have hss:=sized_string hz (j:=5) (t:=9) (bytes:=s.data.toList) rfl (by rw [←hy5];rfl)
  rw [Array.length_toList] at hss
  injection c9 with c9
  refine ⟨gx,ax,nx,cx,xx,gy,ay,ny,cy,xy,gu,au,nu,cu,xu,gv,av,nv,cv,xv,n,s,?_,k0,b0,k1,b1,k2,b2,k3,b3,wf_i64 w8,hss,hlt⟩
  congr 1
  apply Array.ext
  ·rw [hcs];rfl
  ·intro i h1 h2
   have hi:i<10:=by omega
   match i,hi with
   | 0,_=>exact c0
   | 1,_=>exact c1
   | 2,_=>exact c2
   | 3,_=>exact c3
   | 4,_=>exact c4
   | 5,_=>exact c5
   | 6,_=>exact c6
   | 7,_=>exact c7
   | 8,_=>exact c8
   | 9,_=>exact c9
end Go.Proofs.YtbcbmkeeoognpaaGreatDoor

namespace Go.Proofs.YtbcbmkeeoognpaaGreatDoor
open Go.RowKit
theorem Tw.poke {w:World} {b n:Nat} {xs:List Int} (h:Tw w b n xs) {b2:Nat} {t:TypeId} {b0:Bool} {cs:List Value} (k:Cel w b2 t (.bool b0 :: cs)) (j:Nat) (v:Value):Tw (w.setCell ⟨b2,j,none⟩ v) b n xs:=by
 have hne:b2≠b:=by
  rintro rfl
  have h1:=h.blk.cell 0 (by simp)
  have h2:=k.cell 0 _ rfl
  rw [h1] at h2
  cases h2
 refine ⟨h.len,?_,h.dig⟩
 have hb:=h.blk
 unfold Blk at *
 simp only [World.setCell,Array.getElem?_modify,hb,if_neg hne]
def qe5 (r:Bool) (w:World) (e:Ending) (w':World):Prop:=e=.returned (.bool r)∧Below w.heap.size w w'
theorem Yv (ng mg:Bool) (ad bd:Option Addr) (n m c d:Nat) (V U:Int) (w:World) (ha:Can w ad n c V) (hb:Can w bd m d U) (hV:0≤V) (hU:0≤U) (hn:n≤1000000000000) (hm:m≤1000000000000) :
  Calls Tryz.prog 21 #[.agg #[.bool ng,.slice ad n c],.agg #[.bool mg,.slice bd m d]] w (qe5 (ng == mg && decide (V=U)) w):=by
 have b1:Below w.heap.size w (w.alloc (.cells #[.bool ng,.slice ad n c] 52)):=(Below.refl _ _).alloc (Nat.le_refl _) _
 have b2:Below w.heap.size w ((w.alloc (.cells #[.bool ng,.slice ad n c] 52)).alloc (.cells #[.bool mg,.slice bd m d] 52)):=Iy b1 _
 have k0:Cel ((w.alloc (.cells #[.bool ng,.slice ad n c] 52)).alloc (.cells #[.bool mg,.slice bd m d] 52)) w.heap.size 52 [.bool ng,.slice ad n c]:=(Cel.made _ _ _ _ rfl:Cel (w.alloc (.cells #[.bool ng,.slice ad n c] 52)) w.heap.size 52 [.bool ng,.slice ad n c]).next ((Below.refl _ _).alloc (Nat.le_refl _) _)
 have k1:Cel ((w.alloc (.cells #[.bool ng,.slice ad n c] 52)).alloc (.cells #[.bool mg,.slice bd m d] 52)) (w.heap.size+1) 52 [.bool mg,.slice bd m d]:=Cel.made _ _ _ _ (by simp)
 have HS:=Lib.hid (qkq ad bd n m c d V U _ (ha.below b2 (Nat.le_refl _)) (hb.below b2 (Nat.le_refl _)) hV hU hn hm)
 have c0:=k0.cell 0 _ rfl
 have c1:=k0.cell 1 _ rfl
 have d0:=k1.cell 0 _ rfl
 have d1:=k1.cell 1 _ rfl
 obtain ⟨r,hr⟩:∃r,r=(ng == mg && decide (V=U)):=⟨_,rfl⟩
 rw [←hr]
 have HR:=Lib.hid hr
 clear ha hb b1 hr k0 k1
 generalize decide (V=U)=vu at *
 cases ng <;> cases mg
 ·have HE:=Lib.hid (show r=vu by rw [HR.out];rfl)
  go_enter Tryz.func21,Tryz.ntmps21
  go_wp2_with fail
  refine (HS.out).mono ?_
  rintro e w' ⟨rfl,q,rfl⟩
  go_wp2
  go_ret
  rw [HE.out]
  exact ⟨rfl,below_drewN b2 _⟩
 ·have HE:=Lib.hid (show r=false by rw [HR.out];rfl)
  go_enter Tryz.func21,Tryz.ntmps21
  go_wp2
  go_ret
  rw [HE.out]
  exact ⟨rfl,b2⟩
 ·have HE:=Lib.hid (show r=false by rw [HR.out];rfl)
  go_enter Tryz.func21,Tryz.ntmps21
  go_wp2
  go_ret
  rw [HE.out]
  exact ⟨rfl,b2⟩
 ·have HE:=Lib.hid (show r=vu by rw [HR.out];rfl)
  go_enter Tryz.func21,Tryz.ntmps21
  go_wp2_with fail
  refine (HS.out).mono ?_
  rintro e w' ⟨rfl,q,rfl⟩
  go_wp2
  go_ret
  rw [HE.out]
  exact ⟨rfl,below_drewN b2 _⟩
theorem Yd (ng:Bool) (b:Nat) (ld:Option Addr) (n c:Nat) (xs:List Int) (w:World) (ht:Tw w b n xs) (hl:Arg w ld n c xs) (hn:n≤1000000000000) :
  Calls Tryz.prog 44 #[.agg #[.bool ng,.slice (some ⟨b,0,none⟩) n (n+1)],.agg #[.bool ng,.slice ld n c]] w (qe5 true w):=by
 have b1:Below w.heap.size w (w.alloc (.cells #[.bool ng,.slice (some ⟨b,0,none⟩) n (n+1)] 52)):=(Below.refl _ _).alloc (Nat.le_refl _) _
 have b2:Below w.heap.size w ((w.alloc (.cells #[.bool ng,.slice (some ⟨b,0,none⟩) n (n+1)] 52)).alloc (.cells #[.bool ng,.slice ld n c] 52)):=Iy b1 _
 have k0:Cel ((w.alloc (.cells #[.bool ng,.slice (some ⟨b,0,none⟩) n (n+1)] 52)).alloc (.cells #[.bool ng,.slice ld n c] 52)) w.heap.size 52 [.bool ng,.slice (some ⟨b,0,none⟩) n (n+1)]:=(Cel.made _ _ _ _ rfl:Cel (w.alloc (.cells #[.bool ng,.slice (some ⟨b,0,none⟩) n (n+1)] 52)) w.heap.size 52 [.bool ng,.slice (some ⟨b,0,none⟩) n (n+1)]).next ((Below.refl _ _).alloc (Nat.le_refl _) _)
 have k1:Cel ((w.alloc (.cells #[.bool ng,.slice (some ⟨b,0,none⟩) n (n+1)] 52)).alloc (.cells #[.bool ng,.slice ld n c] 52)) (w.heap.size+1) 52 [.bool ng,.slice ld n c]:=Cel.made _ _ _ _ (by simp)
 have HS:=Lib.hid (qko b ld n c xs _ (ht.below b2 (Nat.le_refl _)) (hl.below b2 (Nat.le_refl _)) hn)
 have c0:=k0.cell 0 _ rfl
 have c1:=k0.cell 1 _ rfl
 have d0:=k1.cell 0 _ rfl
 have d1:=k1.cell 1 _ rfl
 clear ht hl b1 k0 k1
 go_enter Tryz.func44,Tryz.ntmps44
 go_wp2_with fail
 refine (HS.out).mono ?_
 rintro e w' ⟨rfl,q,rfl⟩
 go_wp2
 go_ret
 exact ⟨rfl,below_drewN b2 _⟩
end Go.Proofs.YtbcbmkeeoognpaaGreatDoor

namespace Go.Proofs.YtbcbmkeeoognpaaGreatDoor
open Go.RowKit
theorem Jc (s:Int) (ad:Option Addr) (n c:Nat) (V:Int) (r:Bool) (w:World) (h:Can w ad n c V) (hV:0≤V) (hs:(decide (s = -1) && decide (0<V))=r) :
  Calls Tryz.prog 206 #[.int .i8 s,.slice ad n c] w (fun e w'=>e=.returned (.agg #[.bool r,.slice ad n c])∧Below w.heap.size w w'):=by
 have:=qcz s ad n c V w h hV
 rwa [hs] at this
def qlq (r:Bool) (A:Int) (w:World) (e:Ending) (w':World):Prop:=
 ∃ad n c,e=.returned (.agg #[.bool r,.slice ad n c])∧Can w' ad n c A∧Below w.heap.size w w'
theorem Uw.named {N:Int} {r:Bool} {A:Int} (hr:decide (N<0)=r) (hA:A=(N.natAbs:Int)) {w:World} {e:Ending} {w':World} (h:Uw N w e w'):qlq r A w e w':=by
 obtain ⟨ad,n,c,e1,h1,h2⟩:=h
 rw [hr] at e1
 rw [←hA] at h1
 exact ⟨ad,n,c,e1,h1,h2⟩
theorem Zl (N:Int) : -1≤sgI N∧sgI N≤1:=by unfold sgI;split <;> (try split) <;> omega
theorem Xl (N M:Int):sgI N*sgI M=sgI (N*M):=by
 unfold sgI
 rcases Int.lt_trichotomy N 0 with h | h | h
 ·rcases Int.lt_trichotomy M 0 with k | k | k
  ·have:=Int.mul_pos_of_neg_of_neg h k
   rw [if_pos h,if_pos k,if_neg (by omega),if_neg (by omega)];rfl
  ·subst k;rw [Int.mul_zero];simp
  ·have:=Int.mul_neg_of_neg_of_pos h k
   rw [if_pos h,if_neg (by omega),if_neg (by omega),if_pos this];rfl
 ·subst h;rw [Int.zero_mul];simp
 ·rcases Int.lt_trichotomy M 0 with k | k | k
  ·have:=Int.mul_neg_of_pos_of_neg h k
   rw [if_neg (by omega),if_neg (by omega),if_pos k,if_pos this];rfl
  ·subst k;rw [Int.mul_zero];simp
  ·have:=Int.mul_pos h k
   rw [if_neg (by omega),if_neg (by omega),if_neg (by omega),if_neg (by omega),if_neg (by omega),if_neg (by omega)];rfl
theorem qoq (s t:Int) (hs : -1≤s∧s≤1) (ht : -1≤t∧t≤1):IntKind.i8.wrap (s*t)=s*t:=by
 rcases (show s = -1∨s=0∨s=1 by omega) with rfl | rfl | rfl <;> rcases (show t = -1∨t=0∨t=1 by omega) with rfl | rfl | rfl <;> decide
end Go.Proofs.YtbcbmkeeoognpaaGreatDoor

namespace Go.Proofs.YtbcbmkeeoognpaaGreatDoor
open Go.RowKit
theorem qcn (x c:Int) (r:Nat) (hr:r<32) (hx:0≤x∧x<4294967296) (hc:0≤c∧c<2 ^ r) :
  bits .or .u64 (x*2 ^ r) c=x*2 ^ r+c∧0≤x*2 ^ r+c∧x*2 ^ r<18446744073709551616∧0≤x*2 ^ r∧x*2 ^ r+c<18446744073709551616∧(x*2 ^ r+c) / 4294967296<2 ^ r∧c<4294967296:=by
 obtain ⟨x,rfl⟩:=Int.eq_ofNat_of_zero_le hx.1
 obtain ⟨c,rfl⟩:=Int.eq_ofNat_of_zero_le hc.1
 have hp:(2:Nat) ^ r≤2147483648:=by
  have:∀r:Nat,r<32→2 ^ r≤2147483648:=by decide
  exact this r hr
 have e0:((2:Int) ^ r)=((2 ^ r:Nat):Int):=by simp
 have e1:(x:Int)*2 ^ r=((x*2 ^ r:Nat):Int):=by simp
 rw [e1,e0]
 rw [e0] at hc
 have hx2:x*2 ^ r≤4294967295*2 ^ r:=Nat.mul_le_mul_right _ (by omega)
 have hp0:=Nat.two_pow_pos r
 have hj:=nat_join r (x*2 ^ r) c (by rw [Nat.mul_mod_left]) (by omega)
 generalize 2 ^ r=R at *
 have e:bits .or .u64 ((x*R:Nat):Int) (c:Int)=((x*R ||| c:Nat):Int):=Go.bits_or_u64_nat (x*R) c (by omega) (by omega)
 rw [e,hj]
 refine ⟨by simp,by omega,by omega,by omega,by omega,?_,by omega⟩
 omega
def qii (w:World) (la:List Int) (n r m k:Nat) (c:Int) (wr:World):Prop:=
 ∃ds,App w.heap.size wr 44 .u32 (some ⟨w.heap.size,0,none⟩) k (n+1) ds∧Dig 4294967296 ds∧Below w.heap.size w wr∧w.heap.size≤wr.heap.size∧0≤c∧c<2 ^ r ∧
  val 4294967296 ds+c*4294967296 ^ k=val 4294967296 (la.take k)*2 ^ r
def qnn (w:World) (la:List Int) (n r:Nat) (e:Ending) (w':World):Prop:=
 ∃zs,zs.length=n+1∧Dig 4294967296 zs∧val 4294967296 zs=val 4294967296 la*2 ^ r∧Ns 44 .u32 zs w e w'
theorem Sj (ad:Option Addr) (n c r:Nat) (la:List Int) (w:World) (hn:n≤70368744177662) (hc:n≤c) (hr:r<32) (ha:Rds w .u32 ad n la) (da:Dig 4294967296 la) :
  Calls Tryz.prog 241 #[.slice ad n c,.int .i64 r] w (qnn w la n r):=by
 have HL:=Lib.hid ha.len
 have hmk:=Pi (P:=Tryz.prog) 23 44 .u32 4 Tryz.underlying23 Ah (by omega) (n+1) (by omega) ((n:Int)+1) (by omega)
 have hI:qii w la n r n 0 0 (w.alloc (.cells (madeCells #[.int .u32 0] (n+1)) 44)):=
  ⟨[],App.made _ _ _ _ _ (Nat.le_refl _) (by omega) _ rfl,Dig.nil _,(Below.refl _ _).alloc (Nat.le_refl _) _,by simp,by omega,Int.pow_pos (by omega),by simp [val]⟩
 go_enter Tryz.func241,Tryz.ntmps241
 go_wp2
 clear hmk
 go_loopw [16,5,6] (fun i v cy wr=>∃k:Nat,∃c:Int,k≤n∧i=.int .i64 k∧cy=.int .u64 c∧v=.slice (some ⟨w.heap.size,0,none⟩) k (n+1)∧qii w la n r n k c wr) (fun i _ _ _=>n-(intOf i).toNat)
 case atStart=>exact ⟨0,0,Nat.zero_le _,rfl,rfl,rfl,hI⟩
 case round=>
  clear hI
  obtain ⟨k,cy,hk,rfl,rfl,rfl,ds,g1,g2,g3,g4,c0,c1,g5⟩:=hrel
  have H5:=Lib.hid g5
  clear g5
  by_cases hkn:k<n
  ·obtain ⟨a,rfl,hx⟩:=(ha.below g3 (Nat.le_refl _)).cell k hkn
   have bx:=da.get (by omega) k
   have ST:=Lib.hid (qd3 4294967296 (2 ^ r) la ds k g1.len cy _ rfl H5.out)
   clear H5
   generalize la[k]?.getD 0=x at *
   obtain ⟨o1,o2,o3,o4,o5,o6,o7⟩:=qcn x cy r hr bx ⟨c0,c1⟩
   have hmin:min r 64=r:=by omega
   generalize ht:x*2 ^ r=T at *
   have HT:=Lib.hid ht
   clear ht
   have W1:IntKind.u64.wrap (x*2 ^ r)=T:=by rw [HT.out];exact IntWalk.u64_in _ (by omega)
   go_wp2_with (at_builtin;refine qbi w.heap.size rfl (.tmp 26) (.tmp 29) 23 44 .u32 4 rfl Tryz.underlying23 Ah w.heap.size k (n+1) ds ((T+cy) % 4294967296) rfl rfl g1 g3 g4 (by omega) ?_;intro w3 k1 k2 k3)
   go_roundw
   case rel=>exact ⟨k+1,_,by omega,by go_num,rfl,rfl,_,k1,g2.append (Dig.cons (by omega) (by omega) (Dig.nil _)),k2,k3,by omega,o6,ST.out⟩
   case measure=>simp [intOf];omega
  ·obtain rfl:k=n:=by omega
   have hc4:cy<4294967296:=(qcn 0 cy r hr (by omega) ⟨c0,c1⟩).2.2.2.2.2.2
   have hl:=g1.len
   have HV:Hid (val 4294967296 (ds++[cy])=val 4294967296 la*2 ^ r):=by
    have:=H5.out
    rw [List.take_of_length_le (by rw [HL.out];exact Nat.le_refl _)] at this
    show _=_
    rw [val_append,hl,←this]
    simp only [val]
    rw [Int.mul_zero,Int.add_zero,Int.mul_comm]
   go_wp2_with (at_builtin;refine qbi w.heap.size rfl (.tmp 34) (.tmp 37) 23 44 .u32 4 rfl Tryz.underlying23 Ah w.heap.size k (k+1) ds cy rfl rfl g1 g3 g4 (by omega) ?_;intro w3 k1 k2 k3)
   go_ret
   exact ⟨_,by simp [hl],g2.append (Dig.cons c0 hc4 (Dig.nil _)),HV.out,_,_,_,rfl,k1.own,k2⟩
end Go.Proofs.YtbcbmkeeoognpaaGreatDoor

namespace Go.Proofs.YtbcbmkeeoognpaaGreatDoor
theorem qkf (lb ys:List Int) (n r:Nat) (hn:2≤n) (ll:lb.length=n) (dl:Dig 4294967296 lb) (top:Int) (ht:top=lb[n-1]?.getD 0) (hr1:2147483648≤top*2 ^ r) (hr2:(top+1)*2 ^ r≤4294967296)
  (ly:ys.length=n+1) (dy:Dig 4294967296 ys) (hy:val 4294967296 ys=val 4294967296 lb*2 ^ r) :
  val 4294967296 (ys.take n)=val 4294967296 ys∧(4294967296:Int)≤2*(ys.take n)[n-1]?.getD 0∧2147483648*4294967296 ^ (n-1)≤val 4294967296 ys∧val 4294967296 ys<4294967296 ^ n:=by
 have h1:=zy 4294967296 lb (n-1)
 rw [show n-1+1=n by omega,List.take_of_length_le (by omega),←ht] at h1
 have h2:=zy 4294967296 ys n
 rw [List.take_of_length_le (by omega)] at h2
 have h3:=zy 4294967296 ys (n-1)
 rw [show n-1+1=n by omega] at h3
 have p1:(4294967296:Int) ^ n=4294967296 ^ (n-1)*4294967296:=by rw [←Int.pow_succ];congr 1;omega
 have l1:=Au (show (0:Int)<4294967296 by omega) (dl.take (n-1))
 have n1:=zt (show (0:Int)<4294967296 by omega) (dl.take (n-1))
 rw [show (lb.take (n-1)).length=n-1 by simp;omega] at l1
 have l2:=Au (show (0:Int)<4294967296 by omega) (dy.take (n-1))
 rw [show (ys.take (n-1)).length=n-1 by simp;omega] at l2
 have n2:=zt (show (0:Int)<4294967296 by omega) (dy.take n)
 have b1:=dy.get (by omega) n
 have g1:(ys.take n)[n-1]?.getD 0=ys[n-1]?.getD 0:=by rw [List.getElem?_take_of_lt (by omega)]
 rw [g1]
 have hP:(0:Int)<4294967296 ^ (n-1):=Int.pow_pos (by omega)
 have hR:(0:Int)<2 ^ r:=Int.pow_pos (by omega)
 rw [p1] at h2 ⊢
 clear p1 g1 ht
 generalize (4294967296:Int) ^ (n-1)=P at *
 generalize ys[n]?.getD 0=yn at *
 generalize ys[n-1]?.getD 0=hi at *
 generalize val 4294967296 (ys.take n)=T at *
 generalize val 4294967296 (ys.take (n-1))=T1 at *
 generalize val 4294967296 ys=Y at *
 generalize val 4294967296 (lb.take (n-1))=L1 at *
 generalize val 4294967296 lb=L at *
 generalize (2:Int) ^ r=R at *
 have k1:Y<P*4294967296:=by
  have e1:L*R<(top+1)*P*R:=by
   refine Int.mul_lt_mul_of_pos_right ?_ hR
   rw [Int.add_mul,Int.one_mul,Int.mul_comm top];omega
  have e2:(top+1)*R*P≤4294967296*P:=Int.mul_le_mul_of_nonneg_right hr2 (by omega)
  have e3:(top+1)*P*R=(top+1)*R*P:=by grind
  omega
 have k2:yn=0:=by
  rcases Int.lt_or_eq_of_le b1.1 with h | h
  ·have:P*4294967296*1≤P*4294967296*yn:=Int.mul_le_mul_of_nonneg_left (by omega) (by omega)
   omega
  ·exact h.symm
 rw [k2,Int.mul_zero,Int.add_zero] at h2
 have k3:2147483648*P≤Y:=by
  have e1:2147483648*P≤top*R*P:=Int.mul_le_mul_of_nonneg_right hr1 (by omega)
  have e2:top*R*P=P*top*R:=by grind
  have e3:P*top*R≤L*R:=Int.mul_le_mul_of_nonneg_right (by omega) (by omega)
  omega
 refine ⟨h2.symm,?_,k3,k1⟩
 have e:2147483648*P<(hi+1)*P:=by rw [Int.add_mul,Int.one_mul,Int.mul_comm hi];omega
 have:=Int.lt_of_mul_lt_mul_right e (by omega)
 omega
theorem qd0 (la xs:List Int) (n na r:Nat) (hr:(2:Int) ^ r≤2147483648) (hn:2≤n) (hna:n≤na) (ll:la.length=na) (dl:Dig 4294967296 la) (lx:xs.length=na+1) (dx:Dig 4294967296 xs)
  (hx:val 4294967296 xs=val 4294967296 la*2 ^ r) (Y:Int) (hY:2147483648*4294967296 ^ (n-1)≤Y):val 4294967296 (xs.drop (na+1-n))<Y:=by
 have h1:=Fg 4294967296 xs (na+1-n) (by omega)
 have n1:=zt (show (0:Int)<4294967296 by omega) (dx.take (na+1-n))
 have l1:=Au (show (0:Int)<4294967296 by omega) dl
 have p1:(4294967296:Int) ^ na=4294967296 ^ (na+1-n)*4294967296 ^ (n-1):=by rw [←Int.pow_add];congr 1;omega
 rw [ll,p1] at l1
 have hP:(0:Int)<4294967296 ^ (na+1-n):=Int.pow_pos (by omega)
 have hQ:(0:Int)<4294967296 ^ (n-1):=Int.pow_pos (by omega)
 have hR:(0:Int)<2 ^ r:=Int.pow_pos (by omega)
 clear p1
 generalize val 4294967296 (xs.drop (na+1-n))=D at *
 generalize val 4294967296 (xs.take (na+1-n))=T at *
 generalize val 4294967296 xs=X at *
 generalize val 4294967296 la=A at *
 generalize (4294967296:Int) ^ (na+1-n)=P at *
 generalize (4294967296:Int) ^ (n-1)=Q at *
 generalize (2:Int) ^ r=R at *
 have k1:A*R<P*Q*R:=Int.mul_lt_mul_of_pos_right l1 hR
 have k2:P*Q*R≤P*Q*2147483648:=Int.mul_le_mul_of_nonneg_left hr (by have:=Int.mul_pos hP hQ;omega)
 have k3:P*(2147483648*Q)≤P*Y:=Int.mul_le_mul_of_nonneg_left hY (by omega)
 have k4:P*(2147483648*Q)=P*Q*2147483648:=by grind
 have k5:P*D<P*Y:=by omega
 exact Int.lt_of_mul_lt_mul_left k5 (by omega)
theorem qhw (A Bv R:Int) (hR:0<R) (hB:0<Bv):(A*R) % (Bv*R)=(A % Bv)*R:=by
 have h1:=Int.emod_add_mul_ediv A Bv
 have h2:=Int.emod_nonneg A (show Bv≠0 by omega)
 have h3:=Int.emod_lt_of_pos A hB
 have e:A*R=(A % Bv)*R+Bv*R*(A / Bv):=by
  generalize A / Bv=q at *
  generalize A % Bv=r at *
  subst h1
  grind
 rw [e,Int.add_mul_emod_self_left,Int.emod_eq_of_lt (Int.mul_nonneg h2 (by omega)) (Int.mul_lt_mul_of_pos_right h3 hR)]
theorem qhv (A Bv R:Int) (hR:0<R) (hB:0<Bv):(A*R) / (Bv*R)=A / Bv:=by
 have h1:=Int.emod_add_mul_ediv A Bv
 have h2:=Int.emod_nonneg A (show Bv≠0 by omega)
 have h3:=Int.emod_lt_of_pos A hB
 have e:A*R=(A % Bv)*R+Bv*R*(A / Bv):=by
  generalize A / Bv=q at *
  generalize A % Bv=r at *
  subst h1
  grind
 have hy:=Int.mul_pos hB hR
 rw [e,Int.add_mul_ediv_left _ _ (by omega),Int.ediv_eq_zero_of_lt (Int.mul_nonneg h2 (by omega)) (Int.mul_lt_mul_of_pos_right h3 hR),Int.zero_add]
theorem qg6 (X:List Int) (n:Nat) (A Bv R:Int) (hR:0<R) (hB:0<Bv) (dX:Dig 4294967296 X) (hn:n≤X.length) (hX:val 4294967296 X=(A*R) % (Bv*R)) (hlt:Bv*R<4294967296 ^ n) :
  val 4294967296 (X.take n) / R=A % Bv:=by
 have h1:=Fg 4294967296 X n hn
 have n1:=zt (show (0:Int)<4294967296 by omega) (dX.drop n)
 have n2:=zt (show (0:Int)<4294967296 by omega) (dX.take n)
 have hP:(0:Int)<4294967296 ^ n:=Int.pow_pos (by omega)
 have hY:0<Bv*R:=Int.mul_pos hB hR
 have h2:=Int.emod_lt_of_pos (A*R) hY
 have k:val 4294967296 (X.drop n)=0:=by
  rcases Int.lt_or_eq_of_le n1 with h | h
  ·have:4294967296 ^ n*1≤4294967296 ^ n*val 4294967296 (X.drop n):=Int.mul_le_mul_of_nonneg_left (by omega) (by omega)
   omega
  ·exact h.symm
 rw [k,Int.mul_zero,Int.add_zero] at h1
 rw [←h1,hX,qhw A Bv R hR hB]
 exact Int.mul_ediv_cancel _ (by omega)
variable {b P high next ylow x0 x1 x2 wlow Y W:Int}
theorem Win.kept (h:Win b P high next ylow x0 x1 x2 wlow Y W) (g X R:Int) (h1:W / Y≤g) (h2:g≤W / Y+1) (hX:0≤X) (e:X+Y*g=W+(if false=true then 1 else 0)*R):g=W / Y∧X=W % Y:=by
 rw [if_neg (by simp),Int.zero_mul,Int.add_zero] at e
 have hm:=Int.mul_comm Y g
 obtain ⟨k1,k2⟩:=(h.digit g h1 h2).1 (by omega)
 exact ⟨k1,by omega⟩
theorem Win.mended (h:Win b P high next ylow x0 x1 x2 wlow Y W) (g X R X2 o:Int) (h1:W / Y≤g) (h2:g≤W / Y+1) (hX:0≤X∧X<R) (e:X+Y*g=W+(if true=true then 1 else 0)*R)
  (hY:Y<R) (hX2:0≤X2∧X2<R) (e2:X2+o*R=X+Y):g-1=W / Y∧X2=W % Y:=by
 rw [if_pos rfl,Int.one_mul] at e
 have hm:=Int.mul_comm Y g
 obtain ⟨k1,k2⟩:=(h.digit g h1 h2).2 (by omega)
 obtain ⟨p1,p2,p3⟩:=h.pos
 have r1:=Int.emod_nonneg W (show Y≠0 by omega)
 have r2:=Int.emod_lt_of_pos W p1
 refine ⟨k1,?_⟩
 have e3:X2+o*R=W % Y+R:=by omega
 rcases Int.lt_or_le o 1 with ho | ho
 ·have:o*R≤0*R:=Int.mul_le_mul_of_nonneg_right (by omega) (by omega)
  omega
 ·rcases Int.lt_or_le 1 o with ho2 | ho2
  ·have:2*R≤o*R:=Int.mul_le_mul_of_nonneg_right (by omega) (by omega)
   omega
  ·obtain rfl:o=1:=by omega
   omega
end Go.Proofs.YtbcbmkeeoognpaaGreatDoor

namespace Go.Proofs.YtbcbmkeeoognpaaGreatDoor
open Go.RowKit
def qom (rb:Nat) (R:Int) (w:World) (e:Ending) (w':World):Prop:=
 ∃ad n c,e=.returned (.int .u32 (R % 1000000000))∧w'.heap[rb]?=some (.cells #[.slice ad n c] 23 (0,0))∧Own w.heap.size w' 44 .u32 ad n c (dg 4294967296 (R / 1000000000)) ∧
  (∀b,xg ad=some b→0<c→w.heap.size≤b)∧(∀i,i<w.heap.size→i≠rb→w'.heap[i]?=w.heap[i]?)∧w.heap.size≤w'.heap.size∧w'.os=w.os∧w'.tape=w.tape∧w'.output=w.output
theorem qeu (rb:Nat) (ad:Option Addr) (n c:Nat) (R:Int) (w:World) (hn:n≤70368744177664) (hR:0≤R) (hb:w.heap[rb]?=some (.cells #[.slice ad n c] 23 (0,0)))
  (hr:Rds w .u32 ad n (dg 4294967296 R)) :
  Calls Tryz.prog 123 #[.pointer (some ⟨rb,0,none⟩)] w (qom rb R w):=by
 have S:=Tf ad n c (dg 4294967296 R) 1000000000 w hn hr (A8 4294967296 (by omega) _) (by omega)
 have eV:=Bz 4294967296 (by omega) R hR
 rw [show ((4294967296:Nat):Int)=4294967296 from rfl] at eV
 rw [eV] at S
 have HS:=Lib.hid S
 have hc:=cell_of_one hb
 have hlt:=lt_of_block hb
 clear S eV
 go_enter Tryz.func123,Tryz.ntmps123
 go_wp2_with fail
 with_reducible refine (HS.out).mono ?_
 rintro e w1 ⟨qd,qn,qc,rfl,oq,b1⟩
 have hb1:w1.heap[rb]?=some (.cells #[.slice ad n c] 23 (0,0)):=by rw [b1.block rb hlt];exact hb
 have hc1:=cell_of_one hb1
 have hf1:=free_of_one hb1
 clear HS hc
 go_wp2_with fail
 go_ret
 have hO:=(Only.refl rb w1).set 0 (.slice qd qn qc)
 refine ⟨qd,qn,qc,rfl,one_setCell hb1,⟨oq.len,oq.le,oq.big,fun h0=>?_⟩,fun b hb0 h0=>?_,fun i hi hne=>by rw [hO.rest i hne,b1.block i hi],by rw [hO.size];exact b1.size,by rw [hO.os];exact b1.os,by rw [hO.tape];exact b1.tape,by rw [hO.output];exact b1.output⟩
 ·obtain ⟨g,cs,e1,e2,e3,e4⟩:=oq.row h0
  exact ⟨g,cs,e1,e2,by rw [hO.rest g (by omega)];exact e3,e4⟩
 ·obtain ⟨g,cs,e1,e2,_⟩:=oq.row h0
  rw [e1] at hb0
  injection hb0 with hb0
  subst hb0
  exact e2
end Go.Proofs.YtbcbmkeeoognpaaGreatDoor

namespace Go.Proofs.YtbcbmkeeoognpaaGreatDoor
open Go.RowKit
theorem Ou {cs:List Int} (h:jh cs=false):dg 4294967296 (qx cs)=[]:=by
 unfold qx
 rw [h]
 exact Ak _
theorem qem (s:ByteArray) (w:World) (h:s.size=0) :
  Calls Tryz.prog 33 #[.string s] w (P7 44 .u32 [] false w):=by
 have he:s.toList.isEmpty=true:=by rw [Py,h];rfl
 go_enter Tryz.func33,Tryz.ntmps33
 go_wp2_with fail
 go_ret2
 exact ⟨_,_,_,rfl,Own.nil _ _ _ _ _,Below.refl _ _⟩
theorem qhp (s:ByteArray) (w:World) (hs:s.size≤140737488351232) (h:0<s.size) (h0:(qf s)[0]?.getD 0=48) (h1:s.size≠1) :
  Calls Tryz.prog 33 #[.string s] w (P7 44 .u32 [] false w):=by
 have he:s.toList.isEmpty=false:=by rw [Py];exact decide_eq_false (by omega)
 have hq:(s.toList == [48])=false:=by
  rw [beq_eq_false_iff_ne]
  intro e
  have:=(O8 s [48]).1 e
  have h2:=zu s
  rw [this] at h2
  exact h1 (by simpa using h2.symm)
 have hx:(s[0].toNat:Int)=48:=by rw [←Fv s 0 h];exact h0
 clear h0 h1
 go_enter Tryz.func33,Tryz.ntmps33
 go_wp2_with fail
 go_ret2
 exact ⟨_,_,_,rfl,Own.nil _ _ _ _ _,Below.refl _ _⟩
set_option maxHeartbeats 2000000 in
set_option maxRecDepth 20000 in
theorem qhq (s:ByteArray) (w:World) (hs:s.size≤140737488351232) (hp:0<s.size) (h1:(qf s)[0]?.getD 0=48→s.size=1) :
  Calls Tryz.prog 33 #[.string s] w (P7 44 .u32 (dg 4294967296 (qx (qf s))) (jh (qf s)) w):=by
 have he:s.toList.isEmpty=false:=by rw [Py];exact decide_eq_false (by omega)
 have HG:=Lib.hid (Fv s)
 have HD:=Lib.hid (Jn s)
 have HL:=Lib.hid (zu s)
 have H1:=Lib.hid h1
 have hE:=O8 s [48]
 have HE:=Lib.hid hE
 obtain ⟨zs,HZ⟩:∃zs,Hid (zs=dg 4294967296 (qx (qf s))):=⟨_,rfl⟩
 obtain ⟨ok,HO⟩:∃ok,Hid (ok=jh (qf s)):=⟨_,rfl⟩
 rw [←HZ.out,←HO.out]
 clear h1 hE
 generalize qf s=cs at *
 have h00:=HG.out 0 hp
 have b00:=HD.out.get (by omega) 0
 have HNE:Hid (cs≠[]):=Lib.hid (by
  intro e
  have:=HL.out
  rw [e] at this
  simp at this
  omega)
 go_enter Tryz.func33,Tryz.ntmps33
 go_upto_region 1 with (fail)
 go_cut [21] (fun s21 wx=>s21=.bool false∧w=wx)
 case first=>
  by_cases hc:cs[0]?.getD 0=48
  ·have hx:(s[0].toNat:Int)=48:=by rw [←h00];exact hc
   have hsz:=H1.out hc
   have hq:(s.toList == [48])=true:=by
    rw [beq_iff_eq]
    refine HE.out.2 ?_
    have hl:cs.length=1:=by rw [HL.out];exact hsz
    obtain ⟨a,rfl⟩:=List.length_eq_one_iff.1 hl
    have:a=48:=by simpa using hc
    rw [this]
    rfl
   clear hc h00 hsz
   go_wp2_with fail
   go_meet
   case rel=>exact ⟨rfl,rfl⟩
  ·obtain ⟨c,hcc⟩:∃c,cs[0]?.getD 0=c:=⟨_,rfl⟩
   rw [hcc] at h00 hc b00
   have hx:(s[0].toNat:Int)=c:=h00.symm
   have hc2:(c == 48)=false:=by simpa using hc
   clear hcc h00 hc
   go_wp2_with fail
   go_meet
   case rel=>exact ⟨rfl,rfl⟩
 case rest=>
  obtain ⟨rfl,rfl⟩:=hcut
  clear h00 b00
  go_wp2_with fail
  go_loop [24] (fun s24=>∃k:Nat,k≤s.size∧s24=.int .i64 k∧Hid (∀j,j<k→48≤cs[j]?.getD 0∧cs[j]?.getD 0≤57)) (fun s24=>s.size-(intOf s24).toNat)
  case atStart=>exact ⟨0,by omega,rfl,Lib.hid fun j hj=>by omega⟩
  case round=>
   obtain ⟨k,hk,rfl,hd⟩:=hrel
   by_cases hlt:k<s.size
   ·have hx:=HG.out k hlt
    have bx:=HD.out.get (by omega) k
    obtain ⟨c,hcc⟩:∃c,cs[k]?.getD 0=c:=⟨_,rfl⟩
    rw [hcc] at hx bx
    have hx2:(s[k].toNat:Int)=c:=hx.symm
    have HC:=Lib.hid hcc
    clear hx hcc
    by_cases hbad:48≤c∧c≤57
    ·go_wp2_with fail
     go_round
     case rel=>exact ⟨k+1,by omega,by go_num,Lib.hid fun j hj=>by
      rcases Nat.lt_or_ge j k with h2 | h2
      ·exact hd.out j h2
      ·obtain rfl:j=k:=by omega
       rw [HC.out];exact hbad⟩
     case measure=>simp [intOf];omega
    ·have hno:Hid (ok=false):=Lib.hid (by
      rw [HO.out]
      unfold jh
      refine decide_eq_false fun hh=>hbad ?_
      have hk2:k<cs.length:=by rw [HL.out];exact hlt
      have:=(show Qs cs from hh.2.2.1).get hk2
      rw [HC.out] at this
      exact this)
     have hz0:Hid (zs=[]):=Lib.hid (by
      rw [HZ.out];exact Ou (by rw [←HO.out];exact hno.out))
     by_cases hlo:c<48
     ·go_wp2_with fail
      go_ret2
      rw [hno.out,hz0.out]
      exact ⟨_,_,_,rfl,Own.nil _ _ _ _ _,Below.refl _ _⟩
     ·have hhi:57<c:=by omega
      go_wp2_with fail
      go_ret2
      rw [hno.out,hz0.out]
      exact ⟨_,_,_,rfl,Own.nil _ _ _ _ _,Below.refl _ _⟩
   ·have hdecs:Hid (Qs cs):=Lib.hid (by
     intro c hc
     obtain ⟨j,hj,e⟩:=List.getElem_of_mem hc
     have:=hd.out j (by rw [HL.out] at hj;omega)
     rw [List.getElem?_eq_getElem hj,Option.getD_some,e] at this
     exact this)
    have hV0:Hid (∀i,0≤jk (cs.take i)):=Lib.hid fun i=>Ez cs hdecs.out i
    clear hd
    go_wp2_with fail
    clear hlt hk
    go_loopg
  [5,6] s.size (fun g s5 s6 wr=>∃(ad:Option Addr) (an ac i:Nat),s5=.slice ad an ac∧s6=.int .i64 i∧i≤s.size∧an≤262144∧App w.heap.size wr 44 .u32 ad an ac (dg 4294967296 (jk (cs.take i))) ∧
     Below w.heap.size w wr∧w.heap.size≤wr.heap.size∧Hid (g=s.size-i))
    case atStart=>exact ⟨_,_,_,0,rfl,rfl,by omega,by omega,by rw [List.take_zero,show jk []=0 from rfl,Ak];exact App.nil _ _ _ _,Below.refl _ _,Nat.le_refl _,Lib.hid rfl⟩
    case round=>
     obtain ⟨ad,an,ac,i,rfl,rfl,hi,han,happ,hbel,hsz,hme⟩:=hrel
     by_cases hin:i<s.size
     ·obtain ⟨P,hP⟩:∃P,jk (cs.take i)=P:=⟨_,rfl⟩
      have hP0:0≤P:=by rw [←hP];exact hV0.out i
      rw [hP] at happ
      have HPE:=Lib.hid hP
      clear hP
      go_upto_block 4 with fail
      go_cut [6,7,8] (fun s6 s7 s8 wx=>∃(j:Nat) (n t:Int),s6=.int .i64 j∧s7=.int .u32 n∧s8=.int .u32 t∧i<j∧j≤s.size∧1≤t∧t≤1000000000∧0≤n∧n<t∧Hid (jk (cs.take j)=P*t+n)∧wr=wx)
      case first=>
       go_wp2_with fail
       go_loop [6,7,8] (fun s6 s7 s8=>∃(j q:Nat) (n t:Int),s6=.int .i64 j∧s7=.int .u32 n∧s8=.int .u32 t∧i≤j∧j≤s.size∧1≤t∧t≤1000000000∧0≤n∧n<t∧Hid (t=10 ^ q)∧q≤9∧(q=0∨i<j)∧Hid (jk (cs.take j)=P*t+n)) (fun s6 _ _=>s.size-(intOf s6).toNat)
       case atStart=>exact ⟨i,0,0,1,rfl,rfl,rfl,Nat.le_refl _,hi,by omega,by omega,by omega,by omega,Lib.hid (by simp),by omega,.inl rfl,Lib.hid (by rw [HPE.out];simp)⟩
       case round=>
        obtain ⟨j,q,n,t,rfl,rfl,rfl,hij,hj,ht1,ht2,hn0,hn1,htq,hq,hor,hval⟩:=hrel
        by_cases hgo:j<s.size∧q<9
        ·have hjs:j<s.size:=hgo.1
         have ht3:t≤100000000:=by
          rw [htq.out]
          have:=Ew (b:=10) (by omega) (show q≤8 by omega)
          rw [show (10:Int) ^ 8=100000000 from by decide] at this
          exact this
         have hx:=HG.out j hjs
         have hcl:j<cs.length:=by rw [HL.out];exact hjs
         have bx:=hdecs.out.get hcl
         have hst:=Nk cs j hcl
         rw [hval.out] at hst
         obtain ⟨c,hcc⟩:∃c,cs[j]?.getD 0=c:=⟨_,rfl⟩
         rw [hcc] at hx bx hst
         rw [qdk] at hst
         have hx2:(s[j].toNat:Int)=c:=hx.symm
         have HST:=Lib.hid hst
         have htq2:Hid (t*10=10 ^ (q+1)):=Lib.hid (by rw [Int.pow_succ,htq.out])
         have hq9:q<9:=hgo.2
         clear hx hcc hst hgo hcl htq hor hval
         go_wp2_with fail
         go_round
         case rel=>exact ⟨j+1,q+1,_,t*10,by go_num,rfl,rfl,by omega,by omega,by omega,by omega,by omega,by omega,htq2,by omega,.inr (by omega),HST⟩
         case measure=>simp [intOf];omega
        ·have hij2:i<j:=by
          rcases hor with h2 | h2
          ·rcases Nat.lt_or_ge j s.size with h3 | h3
           ·exact absurd ⟨h3,by omega⟩ hgo
           ·omega
          ·exact h2
         by_cases hjs:j<s.size
         ·have hq9:q=9:=by
           rcases Nat.lt_or_ge q 9 with h3 | h3
           ·exact absurd ⟨hjs,h3⟩ hgo
           ·omega
          have ht9:¬t<1000000000:=by rw [htq.out,hq9];decide
          clear hgo hor hq9 htq
          go_wp2_with fail
          go_meet
          case rel=>exact ⟨j,n,t,rfl,rfl,rfl,hij2,hj,ht1,ht2,hn0,hn1,hval,rfl⟩
         ·clear hgo hor htq
          go_wp2_with fail
          go_meet
          case rel=>exact ⟨j,n,t,rfl,rfl,rfl,hij2,hj,ht1,ht2,hn0,hn1,hval,rfl⟩
      case rest=>
       obtain ⟨j,n,t,rfl,rfl,rfl,hij,hj,ht1,ht2,hn0,hn1,hval,rfl⟩:=hcut
       clear hin hi
       have hlP:=Lib.hid happ.len
       have hI:Hid (App w.heap.size wr 44 .u32 ad an ac (dg 4294967296 P)∧Dig 4294967296 (dg 4294967296 P)∧Below w.heap.size w wr∧w.heap.size≤wr.heap.size):=Lib.hid ⟨happ,A8 4294967296 (by omega) _,hbel,hsz⟩
       clear happ hbel hsz
       go_wp2_with fail
       go_loopw [9,66] (fun s9 s66 wz=>∃(k:Nat) (c:Int) (ys:List Int),s9=.int .u64 c∧s66=.int .i64 k∧k≤an∧0≤c∧c≤999999999∧App w.heap.size wz 44 .u32 ad an ac ys∧Dig 4294967296 ys∧Below w.heap.size w wz∧w.heap.size≤wz.heap.size∧Hid (∀q,k≤q→ys[q]?.getD 0=(dg 4294967296 P)[q]?.getD 0) ∧
        Hid (val 4294967296 (ys.take k)+4294967296 ^ k*c=val 4294967296 ((dg 4294967296 P).take k)*t+n)) (fun _ s66 _=>an-(intOf s66).toNat)
       case atStart=>exact ⟨0,n,_,rfl,rfl,Nat.zero_le _,by omega,by omega,hI.out.1,hI.out.2.1,hI.out.2.2.1,hI.out.2.2.2,Lib.hid fun _ _=>rfl,Lib.hid (by simp [val])⟩
       case round=>
        clear hI
        obtain ⟨k,c,ys,rfl,rfl,hk,hc0,hc1,happ,dys,hbel,hsz,hsame,hsum⟩:=hrel
        by_cases hkn:k<an
        ·obtain ⟨g,rfl,hg,hcell,hfree,hset,honly⟩:=happ.opened (by omega)
         have ck:=hcell k hkn
         have fk:=hfree k
         have bx:=dys.get (by omega) k
         have hyl:=happ.len
         have hsm:=hsame.out k (Nat.le_refl _)
         obtain ⟨x,hx⟩:∃x,ys[k]?.getD 0=x:=⟨_,rfl⟩
         rw [hx] at ck bx
         have hm0:0≤x*t:=Int.mul_nonneg bx.1 (by omega)
         have hm1:x*t≤4294967295*1000000000:=Int.mul_le_mul (by omega) ht2 (by omega) (by omega)
         obtain ⟨m,hm⟩:∃m,x*t=m:=⟨_,rfl⟩
         rw [hm] at hm0 hm1
         have W1:IntKind.u64.wrap (x*t)=m:=by rw [hm];exact IntWalk.u64_in _ (by omega)
         have hcar:(c+m) / 4294967296≤999999999:=by
          have hxt:x*t+t≤4294967296*t:=by
           have:=Int.mul_le_mul_of_nonneg_right (show x+1≤4294967296 by omega) (show 0≤t by omega)
           rw [Int.add_mul,Int.one_mul] at this
           exact this
          omega
         have ST:=Lib.hid (qey (dg 4294967296 P) ys k c t (c+m) n (by omega) hsm (by rw [←hsm,hx,hm];omega) hsum.out)
         have SM:Hid (∀q,k+1≤q→(ys.set k ((c+m) % 4294967296))[q]?.getD 0=(dg 4294967296 P)[q]?.getD 0):=Lib.hid fun q hq=>by
          rw [List.getElem?_set_ne (by omega)];exact hsame.out q (by omega)
         have A2:=Lib.hid (hset k ((c+m) % 4294967296) hkn)
         have B2:=Lib.hid (Only.below hbel hg (honly k (.int .u32 ((c+m) % 4294967296))))
         have S2:=Lib.hid (show w.heap.size≤(wr.setCell ⟨g,k,none⟩ (.int .u32 ((c+m) % 4294967296))).heap.size by rw [(honly k _).size];exact hsz)
         have D2:=Lib.hid (dys.set (show 0≤(c+m) % 4294967296 by omega) (show (c+m) % 4294967296<4294967296 by omega) k)
         clear hcell hfree hset honly hsm hx hm hyl happ hsame hsum hbel hsz
         go_wp2_with fail
         go_roundw
         case rel=>exact ⟨k+1,_,_,rfl,by go_num,by omega,by omega,hcar,A2.out,D2.out,B2.out,S2.out,SM,ST⟩
         case measure=>simp [intOf];omega
        ·obtain rfl:k=an:=by omega
         have hyl:=happ.len
         have hS2:=hsum.out
         rw [←hyl] at hS2
         by_cases hcz:c=0
         ·subst hcz
          have hE:=qew P t n ys hP0 ht1 hn0 dys (by rw [hyl];exact hlP.out.symm) hS2
          rw [←hval.out] at hE
          have HA:Hid (App w.heap.size wr 44 .u32 ad k ac (dg 4294967296 (jk (cs.take j)))):=Lib.hid (by rw [←hE];exact happ)
          clear hE happ dys hsame hsum hS2 hkn hyl
          go_wp2_with fail
          go_roundg (s.size-j)
          case measure=>have:=hme.out;omega
          case rel=>exact ⟨_,_,_,j,rfl,rfl,hj,han,HA.out,hbel,hsz,Lib.hid rfl⟩
         ·have hcp:0<c:=by omega
          have hE:=qex P t n c ys hP0 ht1 hn0 dys (by rw [hyl];exact hlP.out.symm) ⟨hcp,by omega⟩ hS2
          rw [←hval.out] at hE
          have HEE:=Lib.hid hE
          clear hE dys hsame hsum hS2 hkn hyl hcz
          by_cases hbig:k+1≤262144
          ·have hnb:¬(262144:Int)<(k:Int)+1:=by omega
           go_wp2_with (at_builtin;refine Jf w.heap.size rfl (.tmp 89) (.tmp 92) 23 44 .u32 4 rfl Tryz.underlying23 Ah (by omega) ad k ac ys c rfl rfl happ hbel hsz (by omega) ?_;intro ad3 c3 w5 k1 k2 k3)
           go_roundg (s.size-j)
           case measure=>have:=hme.out;omega
           case rel=>exact ⟨_,_,_,j,rfl,rfl,hj,hbig,by rw [←HEE.out];exact k1,k2,k3,Lib.hid rfl⟩
          ·have hnb:(262144:Int)<(k:Int)+1:=by omega
           have hno:Hid (ok=false):=Lib.hid (by
            rw [HO.out]
            unfold jh
            refine decide_eq_false fun hh=>?_
            have h3:=hh.2.2.2
            have h4:=qaa _ _ (hV0.out j) (Xd cs hdecs.out j s.size hj)
            rw [←HEE.out,List.length_append,List.length_singleton,happ.len,←HL.out,Jv] at h4
            omega)
           have hz0:Hid (zs=[]):=Lib.hid (by
            rw [HZ.out];exact Ou (by rw [←HO.out];exact hno.out))
           go_wp2_with (at_builtin;refine Jf w.heap.size rfl (.tmp 89) (.tmp 92) 23 44 .u32 4 rfl Tryz.underlying23 Ah (by omega) ad k ac ys c rfl rfl happ hbel hsz (by omega) ?_;intro ad3 c3 w5 k1 k2 k3)
           go_ret2
           rw [hno.out,hz0.out]
           exact ⟨_,_,_,rfl,Own.nil _ _ _ _ _,k2⟩
     ·obtain rfl:i=s.size:=by omega
      have hfull:jk (cs.take s.size)=jk cs:=by rw [←HL.out];exact Jv cs
      have hlen:=happ.len
      rw [hfull] at happ hlen
      have hok:Hid (ok=true):=Lib.hid (by
       rw [HO.out]
       unfold jh
       exact decide_eq_true ⟨HNE.out,fun h=>by rw [HL.out];exact H1.out h,hdecs.out,by omega⟩)
      have hzs:Hid (zs=dg 4294967296 (jk cs)):=Lib.hid (by
       rw [HZ.out]
       unfold qx
       rw [if_pos (by rw [←HO.out];exact hok.out)])
      have hn:=F6 ad an ac (dg 4294967296 (jk cs)) wr (by omega) happ.own.le happ.rds (A8 4294967296 (by omega) _)
      have eV:=Bz 4294967296 (by omega) (jk cs) (by rw [←hfull];exact hV0.out _)
      rw [show ((4294967296:Nat):Int)=4294967296 from rfl] at eV
      rw [eV] at hn
      have HN:=Lib.hid hn
      clear hn eV hlen hfull happ hi hin
      go_wp2_with fail
      with_reducible refine (HN.out).mono ?_
      rintro e w5 ⟨rd,rn,rc,rfl,or,b5⟩
      go_wp2_with fail
      go_ret2
      rw [hok.out,hzs.out]
      exact ⟨_,_,_,rfl,or.mono hsz,Dw hbel hsz b5⟩
theorem Xe (s:ByteArray) (w:World) (hs:s.size≤140737488351232) :
  Calls Tryz.prog 33 #[.string s] w (P7 44 .u32 (dg 4294967296 (qx (qf s))) (jh (qf s)) w):=by
 by_cases h0:s.size=0
 ·have e:qf s=[]:=List.length_eq_zero_iff.1 (by rw [zu];exact h0)
  have hok:jh (qf s)=false:=by rw [e];rfl
  rw [hok,Ou hok]
  exact qem s w h0
 ·by_cases h1:(qf s)[0]?.getD 0=48→s.size=1
  ·exact qhq s w hs (by omega) h1
  ·have h2:(qf s)[0]?.getD 0=48∧s.size≠1:=by
    rcases Classical.em ((qf s)[0]?.getD 0=48) with h2 | h2
    ·exact ⟨h2,fun e=>h1 fun _=>e⟩
    ·exact absurd (fun h3=>absurd h3 h2) h1
   have hok:jh (qf s)=false:=by
    unfold jh
    refine decide_eq_false fun hh=>h2.2 ?_
    have:=hh.2.1 h2.1
    rwa [zu] at this
   rw [hok,Ou hok]
   exact qhp s w hs (by omega) h2.1 h2.2
end Go.Proofs.YtbcbmkeeoognpaaGreatDoor

namespace Go.Proofs.YtbcbmkeeoognpaaGreatDoor
def leL:Nat→Int→List Int
 | 0,_=>[]
 | n+1,U=>U % 256 :: leL n (U / 256)
theorem Ii (n:Nat) (U:Int):(leL n U).length=n:=by
 induction n generalizing U with
 | zero=>rfl
 | succ n ih=>simp [leL,ih]
theorem qad (n:Nat) (U:Int):Dig 256 (leL n U):=by
 induction n generalizing U with
 | zero=>exact Dig.nil _
 | succ n ih=>exact Dig.cons (by omega) (by omega) (ih _)
theorem qfu (n:Nat) (U:Int):val 256 (leL n U)=U % 256 ^ n:=by
 induction n generalizing U with
 | zero=>simp [leL,val,Int.emod_one]
 | succ n ih=>
  show U % 256+256*val 256 (leL n (U / 256))=_
  rw [ih,Int.pow_succ,Int.mul_comm (256 ^ n) 256]
  have hp:(0:Int)<256 ^ n:=Int.pow_pos (by omega)
  generalize (256:Int) ^ n=P at *
  have e1:U=256*(U / 256)+U % 256:=by omega
  have e2:=Int.emod_add_mul_ediv (U / 256) P
  have h1:=Int.emod_nonneg (U / 256) (show P≠0 by omega)
  have h2:=Int.emod_lt_of_pos (U / 256) hp
  have h3:0≤U % 256∧U % 256<256:=by omega
  generalize U / 256=Q at *
  generalize U % 256=r at *
  generalize hm:Q % P=m at *
  generalize Q / P=q at *
  have e3:U=(r+256*m)+256*P*q:=by rw [e1,←e2];grind
  rw [e3,Int.add_mul_emod_self_left,Int.emod_eq_of_lt (by omega) (by omega)]
theorem Vu (xs:List Int) (d:Dig 256 xs):xs=leL xs.length (val 256 xs):=by
 induction xs with
 | nil=>rfl
 | cons x l ih=>
  have hx:=d.head
  show _=(x+256*val 256 l) % 256 :: leL l.length ((x+256*val 256 l) / 256)
  rw [show (x+256*val 256 l) % 256=x by omega,show (x+256*val 256 l) / 256=val 256 l by omega,←ih d.tail]
theorem qmc (n:Nat) (U:Int):leL n (U % 256 ^ n)=leL n U:=by
 have:=Vu _ (qad n U)
 rw [Ii,qfu] at this
 exact this.symm
def beB (n:Nat) (U:Int):List Int:=(leL n U).reverse
theorem Ll (n:Nat) (U:Int):(beB n U).length=n:=by simp [beB,Ii]
theorem Ud (n:Nat) (U:Int):Dig 256 (beB n U):=fun x hx=>qad n U x (List.mem_reverse.1 hx)
theorem qfa (q:Nat) (V:Int) (hV:0≤V):List.replicate q 0++(dg 256 V).reverse=beB (q+(dg 256 V).length) V:=by
 have h:dg 256 V++List.replicate q 0=leL ((dg 256 V).length+q) V:=by
  have hd:Dig 256 (dg 256 V++List.replicate q 0):=(A8 256 (by omega) _).append (Dig.replicate _ (by omega) _)
  have:=Vu _ hd
  have e:=Bz 256 (by omega) V hV
  rw [val_append,C9] at this
  rw [show ((256:Nat):Int)=256 from rfl] at e
  rw [e] at this
  simpa using this
 unfold beB
 rw [Nat.add_comm,←h,List.reverse_append,List.reverse_replicate]
theorem qjv (n:Nat) (V:Int) (hV:0<V) (hl:V<256 ^ n):zk (beB n V)=beB n (-V):=by
 unfold zk beB
 rw [List.reverse_reverse]
 congr 1
 have hd:=qad n V
 have h1:=Vu _ (Y4 (leL n V) 1)
 rw [Lu,Ii,Y5 _ hd,qfu,Int.emod_eq_of_lt (by omega) hl,if_neg (by omega),Ii] at h1
 rw [h1,←qmc n (-V)]
 congr 1
 have e : -V=(256 ^ n-V)+256 ^ n*(-1):=by omega
 rw [e,Int.add_mul_emod_self_left,Int.emod_eq_of_lt (by omega) (by omega)]
theorem qmd (k:Nat) (U:Int):(leL (k+1) U)[k]?.getD 0=U / 256 ^ k % 256:=by
 induction k generalizing U with
 | zero=>simp [leL]
 | succ k ih=>
  show (leL (k+1) (U / 256))[k]?.getD 0=_
  rw [ih,Int.ediv_ediv_of_nonneg (by omega),Int.pow_succ,Int.mul_comm 256]
theorem qfb (k:Nat) (U:Int):(beB (k+1) U)[0]?.getD 0=U / 256 ^ k % 256:=by
 unfold beB
 rw [List.getElem?_reverse (by rw [Ii];omega),Ii,Nat.add_sub_cancel,Nat.sub_zero]
 exact qmd k U
def Hw (N n:Int):Bool:=decide (1≤n∧n≤1048576 ∧ -(128*256 ^ (n.toNat-1))≤N∧N<128*256 ^ (n.toNat-1))
def Qp (N n:Int):List Int:=if Hw N n then beB n.toNat N else []
theorem qmx (k:Nat) (N:Int) (h0:0≤N) (h1:N<256 ^ (k+1)):(N / 256 ^ k % 256) / 128=1↔¬N<128*256 ^ k:=by
 rw [Int.pow_succ] at h1
 have hp:(0:Int)<256 ^ k:=Int.pow_pos (by omega)
 generalize (256:Int) ^ k=P at *
 have e:=Int.emod_add_mul_ediv N P
 have a1:=Int.emod_nonneg N (show P≠0 by omega)
 have a2:=Int.emod_lt_of_pos N hp
 have q0:0≤N / P:=Int.ediv_nonneg h0 (by omega)
 have q1:N / P<256:=Int.ediv_lt_of_lt_mul hp (by omega)
 have key:128≤N / P↔128*P≤N:=Int.le_ediv_iff_mul_le hp
 omega
theorem qmv (k:Nat) (N:Int) (h0:N<0) (h1 : -N<256 ^ (k+1)):(N / 256 ^ k % 256) / 128=1 ↔ -(128*256 ^ k)≤N:=by
 rw [Int.pow_succ] at h1
 have hp:(0:Int)<256 ^ k:=Int.pow_pos (by omega)
 generalize (256:Int) ^ k=P at *
 have q0:N / P<0:=Int.ediv_neg_of_neg_of_pos h0 hp
 have q1 : -256≤N / P:=(Int.le_ediv_iff_mul_le hp).2 (by omega)
 have key : -128≤N / P ↔ -128*P≤N:=Int.le_ediv_iff_mul_le hp
 omega
theorem U2 (V:Int) (hV:0≤V) (k:Nat):bitsOf V≤8*(k:Int)↔V<256 ^ k:=by
 have e:(256:Int) ^ k=((2 ^ (8*k):Nat):Int):=by
  rw [show (256:Int)=2 ^ 8 from rfl,←Int.pow_mul]
  simp
 rw [e]
 unfold bitsOf
 constructor
 ·intro h
  have h1:=Uf V.toNat
  have h2:2 ^ Iz V.toNat≤2 ^ (8*k):=Nat.pow_le_pow_right (by omega) (by omega)
  omega
 ·intro h
  by_cases hz:V.toNat=0
  ·rw [hz,show Iz 0=0 from rfl];omega
  ·have h1:=Ue V.toNat hz
   have h2:V.toNat<2 ^ (8*k):=by omega
   have h3:=(Nat.pow_lt_pow_iff_right (show 1<2 by omega)).1 (Nat.lt_of_le_of_lt h1 h2)
   omega
theorem Y0 (V:Int) (k:Nat) (h:V<256 ^ k):(dg 256 V).length≤k:=Ag 256 (by omega) k V h
end Go.Proofs.YtbcbmkeeoognpaaGreatDoor

namespace Go.Proofs.YtbcbmkeeoognpaaGreatDoor
open Go.RowKit
end Go.Proofs.YtbcbmkeeoognpaaGreatDoor

namespace Go.Proofs.YtbcbmkeeoognpaaGreatDoor
open Go.RowKit
end Go.Proofs.YtbcbmkeeoognpaaGreatDoor
