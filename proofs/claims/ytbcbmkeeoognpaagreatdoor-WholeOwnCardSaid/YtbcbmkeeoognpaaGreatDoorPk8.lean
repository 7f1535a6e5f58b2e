/- Contracts of functions, and plain facts, part 8. -/
import Derived.Test.YtbcbmkeeoognpaaGreatDoorProg
import Derived.BigRegion
import Derived.BigQuiet
import Derived.Deep.QuietTactic
import Derived.Deep.LoopGhost
import Derived.Deep.DeepCutAuto
import Derived.Deep.RegionWith
import Derived.Laws.Bits64b
import Derived.WalkKit
import Derived.Test.YtbcbmkeeoognpaaGreatDoorPk1
import Derived.Test.YtbcbmkeeoognpaaGreatDoorPk2
import Derived.Test.YtbcbmkeeoognpaaGreatDoorPk3
import Derived.Test.YtbcbmkeeoognpaaGreatDoorPk4
import Derived.Test.YtbcbmkeeoognpaaGreatDoorPk5
import Derived.Test.YtbcbmkeeoognpaaGreatDoorPk6
import Derived.Test.YtbcbmkeeoognpaaGreatDoorPk7
set_option linter.unusedVariables false
set_option linter.unusedSimpArgs false
namespace Go.Proofs.YtbcbmkeeoognpaaGreatDoor
open Go.RowKit
theorem Uz (x pm r:Int) (hx:0≤x∧x<4294967296) (hp:0≤pm∧pm<4294967296) (hr:0≤r∧r<4294967296) :
  ∃d o:Int,IntKind.u64.wrap (IntKind.u64.wrap (x-pm)-r)=d∧0≤d∧d<18446744073709551616∧(o=0∨o=1∨o=2)∧d % 4294967296=x-pm-r+o*4294967296∧d / 9223372036854775808=(if 0<o then 1 else 0)∧(r≤1→o≤1):=by
 have e:∀z:Int,IntKind.u64.wrap z=z % 18446744073709551616:=fun z=>by rfl
 refine ⟨(x-pm-r) % 18446744073709551616,if x-pm-r < -4294967296 then 2 else if x-pm-r<0 then 1 else 0,?_,by omega,by omega,?_,?_,?_,?_⟩
 ·rw [e,e];omega
 ·split
  ·omega
  ·split <;> omega
 ·split
  ·omega
  ·split <;> omega
 ·split
  ·simp;omega
  ·split <;> simp <;> omega
 ·intro h;split
  ·omega
  ·split <;> omega
theorem and_low32 (z:Int) (hz:0≤z∧z<18446744073709551616):bits .and .u64 z 4294967295=z % 4294967296:=by
 obtain ⟨z,rfl⟩:=Int.eq_ofNat_of_zero_le hz.1
 have e:bits .and .u64 (z:Int) ((4294967295:Nat):Int)=((z &&& 4294967295:Nat):Int):=Go.bits_and_u64_nat z _ (by omega) (by omega)
 have e2:z &&& 4294967295=z % 4294967296:=Nat.and_two_pow_sub_one_eq_mod z 32
 rw [e2] at e
 have e':bits .and .u64 (z:Int) 4294967295=((z % 4294967296:Nat):Int):=e
 rw [e']
 simp
def qh8 (w:World) (bl:Nat) (t:TypeId) (Z:List Int) (j n:Nat) (m:Int) (ys:List Int) (k:Nat) (c r:Int) (wr:World):Prop:=
 ∃X,Aw wr bl t .u32 (putAt Z j X)∧X.length=n+1∧Dig 4294967296 X∧Only bl w wr∧0≤c∧c<4294967296∧0≤r∧r≤1∧(∀q,k≤q→X[q]?.getD 0=((Z.drop j).take (n+1))[q]?.getD 0) ∧
  val 4294967296 (X.take k)+val 4294967296 (ys.take k)*m=val 4294967296 (((Z.drop j).take (n+1)).take k)+(c+r)*4294967296 ^ k
def qh9 (w:World) (bl:Nat) (t:TypeId) (Z:List Int) (j n:Nat) (m:Int) (ys:List Int) (e:Ending) (w':World):Prop:=
 ∃X ok,e=.returned (.bool ok)∧Aw w' bl t .u32 (putAt Z j X)∧X.length=n+1∧Dig 4294967296 X∧Only bl w w' ∧
  val 4294967296 X+val 4294967296 ys*m=val 4294967296 ((Z.drop j).take (n+1))+(if ok=true then 1 else 0)*4294967296 ^ (n+1)
theorem qbj (bl j n c cy:Nat) (t:TypeId) (Z ys:List Int) (yd:Option Addr) (m:Int) (w:World) (hlen:j+(n+1)≤Z.length) (hbig:n<70368744177664) (hc:n+1≤c) (hcy:n≤cy)
  (hx:Aw w bl t .u32 Z) (hy:Rds w .u32 yd n ys) (hne:∀a,yd=some a→a.block≠bl) (dz:Dig 4294967296 Z) (dy:Dig 4294967296 ys) (hm0:0≤m) (hm1:m<4294967296) :
  Calls Tryz.prog 242 #[.slice (some ⟨bl,j,none⟩) (n+1) c,.slice yd n cy,.int .u64 m] w (qh9 w bl t Z j n m ys):=by
 have HY:=Lib.hid hy.len
 have hI:qh8 w bl t Z j n m ys 0 0 0 w:=⟨(Z.drop j).take (n+1),by rw [Xb Z j (n+1) hlen];exact hx,by rw [List.length_take,List.length_drop];omega,(dz.drop j).take _,Only.refl _ _,by omega,by omega,by omega,by omega,fun _ _=>rfl,by simp [val]⟩
 obtain ⟨a,ha⟩:∃a:Addr,(⟨bl,j,none⟩:Addr)=a:=⟨_,rfl⟩
 have haj:∀k,a.add k=⟨bl,j+k,none⟩:=fun k=>by rw [←ha];unfold Addr.add;split <;> simp_all
 have HA:=Lib.hid haj
 rw [ha]
 have HX:=Lib.hid (show ((Z.drop j).take (n+1)).length=n+1 by rw [List.length_take,List.length_drop];omega)
 have dxx:=(dz.drop j).take (n+1)
 have HL:=Lib.hid hlen
 clear ha haj hlen hx
 unfold qh8 at hI
 unfold qh9
 generalize hxs:(Z.drop j).take (n+1)=xs at *
 clear hxs
 go_enter Tryz.func242,Tryz.ntmps242
 go_wp2
 go_loopw [16,7,8] (fun i cy br wr=>∃k:Nat,∃c r:Int,k≤n∧i=.int .i64 k∧cy=.int .u64 c∧br=.int .u64 r ∧
  ∃X,Aw wr bl t .u32 (putAt Z j X)∧X.length=n+1∧Dig 4294967296 X∧Only bl w wr∧0≤c∧c<4294967296∧0≤r∧r≤1∧(∀q,k≤q→X[q]?.getD 0=xs[q]?.getD 0) ∧
  val 4294967296 (X.take k)+val 4294967296 (ys.take k)*m=val 4294967296 (xs.take k)+(c+r)*4294967296 ^ k) (fun i _ _ _=>n-(intOf i).toNat)
 case atStart=>exact ⟨0,0,0,Nat.zero_le _,rfl,rfl,rfl,hI⟩
 case round=>
  clear hI
  obtain ⟨k,c,r,hk,rfl,rfl,rfl,X,h1,h2,h3,h4,hc0,hc1,hr0,hr1,h5,h6⟩:=hrel
  have H2:=Lib.hid h2
  have H5:=Lib.hid h5
  have H6:=Lib.hid h6
  clear h2 h5 h6
  have hcell:∀q,q<n+1→wr.cell? (a.add q)=some (.int .u32 (X[q]?.getD 0)):=fun q hq=>by
   rw [HA.out q,h1.cell (j+q) (by rw [Jg _ _ _ (by rw [H2.out];exact HL.out)];have:=HL.out;omega),Zf _ _ _ (by have:=HL.out;omega) _ (by rw [H2.out];exact hq)]
  have hfree:∀q,wr.frozen? (a.add q)=false:=fun q=>by rw [HA.out q];exact h1.free _
  have hset:∀q v,q<n+1→Aw (wr.setCell (a.add q) (.int .u32 v)) bl t .u32 (putAt Z j (X.set q v)):=fun q v hq=>by
   rw [HA.out q,←Zg Z j X (by have:=HL.out;omega) q (by rw [H2.out];exact hq)]
   exact h1.set _ _
  have hon:∀q v,Only bl w (wr.setCell (a.add q) v):=fun q v=>by rw [HA.out q];exact h4.set _ _
  by_cases hkn:k<n
  ·have hcx:=hcell k (by omega)
   rw [H5.out k (Nat.le_refl _)] at hcx
   have hf:=hfree k
   obtain ⟨b,rfl,hyl⟩:=(hy.only h4 hne).cell k hkn
   have bx:=dxx.get (by omega) k
   have bz:=dy.get (by omega) k
   have bb:=Y9 (o:=0) rfl bz.1 bz.2 hm0 hm1 (by omega) (by omega) hc0 hc1
   have ST:=fun v r' hv=>Lib.hid (qdg 4294967296 xs X ys k (by rw [H2.out];omega) m c r _ v r' rfl hv H6.out)
   clear H6
   generalize hgx:xs[k]?.getD 0=x at *
   have HXK:=Lib.hid hgx
   clear hgx
   generalize ys[k]?.getD 0=y at *
   generalize ht:y*m=T at *
   have HT:=Lib.hid ht
   clear ht
   obtain ⟨bt0,bt1,bs0,bs1⟩:=bb
   obtain ⟨p,hp⟩:∃p,T+c=p:=⟨_,rfl⟩
   rw [hp] at ST
   obtain ⟨d,o,hw,hd0,hd1,ho,hlow,hhigh,ho1⟩:=Uz x (p % 4294967296) r bx (by omega) (by omega)
   have ho2:o=0∨o=1:=by omega
   have hh2:d / 9223372036854775808=o:=by rcases ho2 with rfl | rfl <;> simpa using hhigh
   have hand:=and_low32 p (by omega)
   have W1:IntKind.u64.wrap (y*m)=T:=by rw [HT.out];exact IntWalk.u64_in _ (by omega)
   have W2:IntKind.u64.wrap (T+c)=p:=by rw [hp];exact IntWalk.u64_in _ (by omega)
   have SX:=ST _ o hlow
   have K1:=hset k (d % 4294967296) (by omega)
   have O1:=hon k (.int .u32 (d % 4294967296))
   have D1:=h3.set (show 0≤d % 4294967296 by omega) (show d % 4294967296<4294967296 by omega) k
   clear ST hhigh ho1 hcell hset hon hfree hlow ho
   go_wp2
   go_roundw
   case rel=>
    refine ⟨k+1,p / 4294967296,o,by omega,by go_num,rfl,rfl,_,K1,by rw [List.length_set,H2.out],D1,O1,by omega,by omega,by omega,by omega,fun q hq=>?_,SX.out⟩
    rw [List.getElem?_set_ne (by omega)]
    exact H5.out q (by omega)
   case measure=>simp [intOf];omega
  ·obtain rfl:k=n:=by omega
   have hcx:=hcell k (by omega)
   rw [H5.out k (Nat.le_refl _)] at hcx
   have hf:=hfree k
   have bx:=dxx.get (by omega) k
   have ST:=fun v r' hv=>Lib.hid (qf7 4294967296 xs X ys k HX.out H2.out HY.out m c r v r' hv H6.out)
   generalize xs[k]?.getD 0=x at *
   obtain ⟨d,o,hw,hd0,hd1,ho,hlow,hhigh,ho1⟩:=Uz x c r bx ⟨hc0,hc1⟩ ⟨hr0,by omega⟩
   have ho2:o=0∨o=1:=by omega
   have hh2:d / 9223372036854775808=o:=by rcases ho2 with rfl | rfl <;> simpa using hhigh
   have SX:=ST _ o hlow
   have K1:=hset k (d % 4294967296) (by omega)
   have O1:=hon k (.int .u32 (d % 4294967296))
   have D1:=h3.set (show 0≤d % 4294967296 by omega) (show d % 4294967296<4294967296 by omega) k
   clear ST hhigh ho1 hcell hset hon hfree hlow ho
   go_wp2
   go_ret
   refine ⟨_,_,rfl,K1,by rw [List.length_set,H2.out],D1,O1,?_⟩
   rw [SX.out]
   rcases ho2 with rfl | rfl <;> simp
end Go.Proofs.YtbcbmkeeoognpaaGreatDoor

namespace Go.Proofs.YtbcbmkeeoognpaaGreatDoor
open Go.RowKit
def qm3 (w:World) (bl:Nat) (t:TypeId) (Z:List Int) (j n:Nat) (ys:List Int) (e:Ending) (w':World):Prop:=
 ∃X o,e=.returned (.tuple #[])∧Aw w' bl t .u32 (putAt Z j X)∧X.length=n+1∧Dig 4294967296 X∧Only bl w w' ∧
  val 4294967296 X+o*4294967296 ^ (n+1)=val 4294967296 ((Z.drop j).take (n+1))+val 4294967296 ys
theorem qdf (bl j n c cy:Nat) (t:TypeId) (Z ys:List Int) (yd:Option Addr) (w:World) (hlen:j+(n+1)≤Z.length) (hbig:n<70368744177664) (hc:n+1≤c) (hcy:n≤cy)
  (hx:Aw w bl t .u32 Z) (hy:Rds w .u32 yd n ys) (hne:∀a,yd=some a→a.block≠bl) (dz:Dig 4294967296 Z) (dy:Dig 4294967296 ys) :
  Calls Tryz.prog 243 #[.slice (some ⟨bl,j,none⟩) (n+1) c,.slice yd n cy] w (qm3 w bl t Z j n ys):=by
 have HY:=Lib.hid hy.len
 obtain ⟨a,ha⟩:∃a:Addr,(⟨bl,j,none⟩:Addr)=a:=⟨_,rfl⟩
 have haj:∀k,a.add k=⟨bl,j+k,none⟩:=fun k=>by rw [←ha];unfold Addr.add;split <;> simp_all
 have HA:=Lib.hid haj
 rw [ha]
 have HX:=Lib.hid (show ((Z.drop j).take (n+1)).length=n+1 by rw [List.length_take,List.length_drop];omega)
 have dxx:=(dz.drop j).take (n+1)
 have HL:=Lib.hid hlen
 have hI:∃X,Aw w bl t .u32 (putAt Z j X)∧X.length=n+1∧Dig 4294967296 X∧Only bl w w∧(0:Int)≤0∧(0:Int)≤1∧(∀q,0≤q→X[q]?.getD 0=((Z.drop j).take (n+1))[q]?.getD 0) ∧
  val 4294967296 (X.take 0)+0*4294967296 ^ 0=val 4294967296 (((Z.drop j).take (n+1)).take 0)+val 4294967296 (ys.take 0):=
  ⟨(Z.drop j).take (n+1),by rw [Xb Z j (n+1) hlen];exact hx,HX.out,dxx,Only.refl _ _,by omega,by omega,fun _ _=>rfl,by simp [val]⟩
 clear ha haj hlen hx
 unfold qm3
 generalize hxs:(Z.drop j).take (n+1)=xs at *
 clear hxs
 go_enter Tryz.func243,Tryz.ntmps243
 go_wp2
 go_loopw [10,4] (fun i cy wr=>∃k:Nat,∃c:Int,k≤n∧i=.int .i64 k∧cy=.int .u64 c ∧
  ∃X,Aw wr bl t .u32 (putAt Z j X)∧X.length=n+1∧Dig 4294967296 X∧Only bl w wr∧0≤c∧c≤1∧(∀q,k≤q→X[q]?.getD 0=xs[q]?.getD 0) ∧
  val 4294967296 (X.take k)+c*4294967296 ^ k=val 4294967296 (xs.take k)+val 4294967296 (ys.take k)) (fun i _ _=>n-(intOf i).toNat)
 case atStart=>exact ⟨0,0,Nat.zero_le _,rfl,rfl,hI⟩
 case round=>
  clear hI
  obtain ⟨k,c,hk,rfl,rfl,X,h1,h2,h3,h4,hc0,hc1,h5,h6⟩:=hrel
  have H2:=Lib.hid h2
  have H5:=Lib.hid h5
  have H6:=Lib.hid h6
  clear h2 h5 h6
  have hcell:∀q,q<n+1→wr.cell? (a.add q)=some (.int .u32 (X[q]?.getD 0)):=fun q hq=>by
   rw [HA.out q,h1.cell (j+q) (by rw [Jg _ _ _ (by rw [H2.out];exact HL.out)];have:=HL.out;omega),Zf _ _ _ (by have:=HL.out;omega) _ (by rw [H2.out];exact hq)]
  have hfree:∀q,wr.frozen? (a.add q)=false:=fun q=>by rw [HA.out q];exact h1.free _
  have hset:∀q v,q<n+1→Aw (wr.setCell (a.add q) (.int .u32 v)) bl t .u32 (putAt Z j (X.set q v)):=fun q v hq=>by
   rw [HA.out q,←Zg Z j X (by have:=HL.out;omega) q (by rw [H2.out];exact hq)]
   exact h1.set _ _
  have hon:∀q v,Only bl w (wr.setCell (a.add q) v):=fun q v=>by rw [HA.out q];exact h4.set _ _
  by_cases hkn:k<n
  ·have hcx:=hcell k (by omega)
   rw [H5.out k (Nat.le_refl _)] at hcx
   have hf:=hfree k
   obtain ⟨b,rfl,hyl⟩:=(hy.only h4 hne).cell k hkn
   have bx:=dxx.get (by omega) k
   have bz:=dy.get (by omega) k
   have ST:=Lib.hid (qf6 4294967296 xs X ys k (by rw [H2.out];omega) c _ rfl H6.out)
   clear H6
   generalize xs[k]?.getD 0=x at *
   generalize ys[k]?.getD 0=y at *
   have K1:=hset k ((x+y+c) % 4294967296) (by omega)
   have O1:=hon k (.int .u32 ((x+y+c) % 4294967296))
   have D1:=h3.set (show 0≤(x+y+c) % 4294967296 by omega) (show (x+y+c) % 4294967296<4294967296 by omega) k
   clear hcell hset hon hfree
   go_wp2
   go_roundw
   case rel=>
    refine ⟨k+1,_,by omega,by go_num,rfl,_,K1,by rw [List.length_set,H2.out],D1,O1,by omega,by omega,fun q hq=>?_,ST.out⟩
    rw [List.getElem?_set_ne (by omega)]
    exact H5.out q (by omega)
   case measure=>simp [intOf];omega
  ·obtain rfl:k=n:=by omega
   have hcx:=hcell k (by omega)
   rw [H5.out k (Nat.le_refl _)] at hcx
   have hf:=hfree k
   have bx:=dxx.get (by omega) k
   have ST:=Lib.hid (qiw 4294967296 xs X ys k HX.out H2.out HY.out c _ rfl H6.out)
   generalize xs[k]?.getD 0=x at *
   have K1:=hset k ((x+c) % 4294967296) (by omega)
   have O1:=hon k (.int .u32 ((x+c) % 4294967296))
   have D1:=h3.set (show 0≤(x+c) % 4294967296 by omega) (show (x+c) % 4294967296<4294967296 by omega) k
   clear hcell hset hon hfree
   go_wp2
   go_end0
   exact ⟨_,_,rfl,K1,by rw [List.length_set,H2.out],D1,O1,ST.out⟩
end Go.Proofs.YtbcbmkeeoognpaaGreatDoor

namespace Go.Proofs.YtbcbmkeeoognpaaGreatDoor
structure Ib (B V Y:Int) (n L:Nat) (X q:List Int) (j:Nat):Prop where
 lx:X.length=L
 lq:q.length=L-n
 dx:Dig B X
 dq:Dig B q
 sum:val B X+val B q*Y=V
 lt:val B (X.drop j)<Y
 zero:∀i,i<j→q[i]?.getD 0=0
variable {B V Y:Int} {n L j:Nat} {X q ys:List Int}
theorem qh4 (B:Int) (W:List Int) (n:Nat) (hn:2≤n) (hW:W.length=n+1) :
  val B W=((W[n]?.getD 0*B+W[n-1]?.getD 0)*B+W[n-2]?.getD 0)*B ^ (n-2)+val B (W.take (n-2)):=by
 have h1:=zy B W n
 rw [List.take_of_length_le (by omega)] at h1
 have h2:=zy B W (n-1)
 have h3:=zy B W (n-2)
 rw [show n-1+1=n by omega] at h2
 rw [show n-2+1=n-1 by omega] at h3
 have p1:B ^ (n-1)=B ^ (n-2)*B:=by rw [←Int.pow_succ];congr 1;omega
 have p2:B ^ n=B ^ (n-2)*B*B:=by rw [←p1,←Int.pow_succ];congr 1;omega
 rw [h1,h2,h3,p1,p2]
 generalize B ^ (n-2)=P
 generalize val B (W.take (n-2))=T
 grind
theorem qh3 (B:Int) (W:List Int) (n:Nat) (hn:2≤n) (hW:W.length=n) :
  val B W=(W[n-1]?.getD 0*B+W[n-2]?.getD 0)*B ^ (n-2)+val B (W.take (n-2)):=by
 have h2:=zy B W (n-1)
 have h3:=zy B W (n-2)
 rw [show n-1+1=n by omega,List.take_of_length_le (by omega)] at h2
 rw [show n-2+1=n-1 by omega] at h3
 have p1:B ^ (n-1)=B ^ (n-2)*B:=by rw [←Int.pow_succ];congr 1;omega
 rw [h2,h3,p1]
 generalize B ^ (n-2)=P
 generalize val B (W.take (n-2))=T
 grind
theorem Ib.window (h:Ib B V Y n L X q (j+1)) (hB:2≤B) (hj:j+n+1≤L) (hY:Y<B ^ n) :
  val B (X.drop j)=val B ((X.drop j).take (n+1))∧val B (X.drop (j+n+1))=0∧val B ((X.drop j).take (n+1))<B*Y∧0≤val B ((X.drop j).take (n+1)):=by
 have lx:=h.lx
 have e1:=Ec B X j (by omega)
 have e2:=Fg B (X.drop j) (n+1) (by rw [List.length_drop];omega)
 rw [List.drop_drop,←Nat.add_assoc] at e2
 have d1:=h.dx.get (by omega) j
 have z1:=zt (by omega) ((h.dx.drop j).take (n+1))
 have z2:=zt (by omega) (h.dx.drop (j+n+1))
 have hl:=h.lt
 have k1:val B (X.drop j)<B*Y:=by
  have:B*(val B (X.drop (j+1))+1)≤B*Y:=Int.mul_le_mul_of_nonneg_left (by omega) (by omega)
  rw [Int.mul_add,Int.mul_one] at this
  omega
 have k2:B*Y<B ^ (n+1):=by
  rw [Int.pow_succ,Int.mul_comm]
  exact Int.mul_lt_mul_of_pos_right hY (by omega)
 have hp:0<B ^ (n+1):=Int.pow_pos (by omega)
 have k3:val B (X.drop (j+n+1))=0:=by
  rcases Int.lt_or_eq_of_le z2 with h1 | h1
  ·exfalso
   have:B ^ (n+1)*1≤B ^ (n+1)*val B (X.drop (j+n+1)):=Int.mul_le_mul_of_nonneg_left (by omega) (by omega)
   omega
  ·exact h1.symm
 rw [k3,Int.mul_zero,Int.add_zero] at e2
 exact ⟨e2,k3,by omega,z1⟩
theorem Ib.win (h:Ib B V Y n L X q (j+1)) (hB:2≤B) (hn:2≤n) (hj:j+n+1≤L) (ly:ys.length=n) (dy:Dig B ys) (eY:val B ys=Y) (hh:B≤2*ys[n-1]?.getD 0) :
  Win B (B ^ (n-2)) (ys[n-1]?.getD 0) (ys[n-2]?.getD 0) (val B (ys.take (n-2))) (X[j+n]?.getD 0) (X[j+n-1]?.getD 0) (X[j+n-2]?.getD 0) (val B (((X.drop j).take (n+1)).take (n-2))) Y (val B ((X.drop j).take (n+1))):=by
 have lx:=h.lx
 have hY:Y<B ^ n:=by rw [←eY,←ly];exact Au (by omega) dy
 obtain ⟨w1,w2,w3,w4⟩:=h.window hB hj hY
 have g1:((X.drop j).take (n+1))[n]?.getD 0=X[j+n]?.getD 0:=by rw [List.getElem?_take_of_lt (by omega),List.getElem?_drop]
 have g2:((X.drop j).take (n+1))[n-1]?.getD 0=X[j+n-1]?.getD 0:=by rw [List.getElem?_take_of_lt (by omega),List.getElem?_drop,show j+(n-1)=j+n-1 by omega]
 have g3:((X.drop j).take (n+1))[n-2]?.getD 0=X[j+n-2]?.getD 0:=by rw [List.getElem?_take_of_lt (by omega),List.getElem?_drop,show j+(n-2)=j+n-2 by omega]
 have e:=qh4 B ((X.drop j).take (n+1)) n hn (by rw [List.length_take,List.length_drop];omega)
 rw [g1,g2,g3] at e
 have dw:=(h.dx.drop j).take (n+1)
 have l1:=Au (show 0<B by omega) (dw.take (n-2))
 have l2:=Au (show 0<B by omega) (dy.take (n-2))
 rw [show (((X.drop j).take (n+1)).take (n-2)).length=n-2 by simp;omega] at l1
 rw [show (ys.take (n-2)).length=n-2 by simp;omega] at l2
 exact ⟨hB,Int.pow_pos (by omega),⟨hh,(dy.get (by omega) _).2⟩,dy.get (by omega) _,⟨zt (by omega) (dy.take _),l2⟩,h.dx.get (by omega) _,h.dx.get (by omega) _,h.dx.get (by omega) _,
  ⟨zt (by omega) (dw.take _),l1⟩,by rw [←eY];exact qh3 B ys n hn ly,e,w3⟩
theorem Ib.step (h:Ib B V Y n L X q (j+1)) (hB:2≤B) (hj:j+n+1≤L) (hY:0<Y∧Y<B ^ n) (g:Int) (hg:g=val B ((X.drop j).take (n+1)) / Y) (hgb:0≤g∧g<B) (X1:List Int) (l1:X1.length=n+1) (d1:Dig B X1)
  (v1:val B X1=val B ((X.drop j).take (n+1)) % Y):Ib B V Y n L (putAt X j X1) (q.set j g) j:=by
 have lx:=h.lx
 have lq:=h.lq
 obtain ⟨w1,w2,w3,w4⟩:=h.window hB hj hY.2
 have hm:=Int.emod_add_mul_ediv (val B ((X.drop j).take (n+1))) Y
 have hr:=Int.emod_lt_of_pos (val B ((X.drop j).take (n+1))) hY.1
 refine ⟨by rw [Jg _ _ _ (by omega)];exact lx,by rw [List.length_set];exact lq,Ze h.dx d1 j,h.dq.set hgb.1 hgb.2 j,?_,?_,fun i hi=>?_⟩
 ·rw [qhm B X j (n+1) X1 l1 (by omega),Nl B q j g (by omega),h.zero j (by omega),v1]
  have hs:=h.sum
  rw [←hg] at hm
  generalize val B ((X.drop j).take (n+1))=W at *
  generalize W % Y=r at *
  generalize val B X=A at *
  generalize val B q=Q at *
  generalize B ^ j=P at *
  subst hs
  have:W=r+Y*g:=hm.symm
  subst this
  grind
 ·have e:(putAt X j X1).drop j=X1++X.drop (j+X1.length):=by
   unfold putAt
   rw [List.drop_append_of_le_length (by rw [List.length_take];omega),List.drop_of_length_le (by rw [List.length_take];omega),List.nil_append]
  rw [e,val_append,l1,←Nat.add_assoc,w2,Int.mul_zero,Int.add_zero,v1]
  exact hr
 ·rw [List.getElem?_set_ne (by omega)]
  exact h.zero i (by omega)
theorem Ib.skip (h:Ib B V Y n L X q (j+1)) (hB:2≤B) (hj:j+n+1≤L) (hY:0<Y∧Y<B ^ n) (hg:val B ((X.drop j).take (n+1)) / Y≤0):Ib B V Y n L X q j:=by
 obtain ⟨w1,w2,w3,w4⟩:=h.window hB hj hY.2
 have hm:=Int.emod_add_mul_ediv (val B ((X.drop j).take (n+1))) Y
 have hr:=Int.emod_lt_of_pos (val B ((X.drop j).take (n+1))) hY.1
 have h0:0≤val B ((X.drop j).take (n+1)) / Y:=Int.ediv_nonneg w4 (by omega)
 have e:val B ((X.drop j).take (n+1)) / Y=0:=by omega
 rw [e,Int.mul_zero,Int.add_zero] at hm
 refine ⟨h.lx,h.lq,h.dx,h.dq,h.sum,by omega,fun i hi=>h.zero i (by omega)⟩
theorem Ib.done (h:Ib B V Y n L X q 0) (hB:2≤B) (hY:0<Y):val B q=V / Y∧val B X=V % Y:=by
 have h1:=h.sum
 have h2:=h.lt
 rw [List.drop_zero] at h2
 have h3:=zt (show 0<B by omega) h.dx
 have e1:V / Y=val B q:=by
  rw [←h1,Int.add_mul_ediv_right _ _ (by omega),Int.ediv_eq_zero_of_lt h3 h2,Int.zero_add]
 have e2:V % Y=val B X:=by
  rw [←h1,Int.add_mul_emod_self_right,Int.emod_eq_of_lt h3 h2]
 exact ⟨e1.symm,e2.symm⟩
theorem Ib.start (hB:2≤B) (hn:n<L) (lx:X.length=L) (dx:Dig B X) (hV:val B X=V) (hlt:val B (X.drop (L-n))<Y):Ib B V Y n L X (List.replicate (L-n) 0) (L-n):=
 ⟨lx,by simp,dx,Dig.replicate _ (by omega) _,by rw [C9,Int.zero_mul,Int.add_zero];exact hV,hlt,fun i hi=>by simp [List.getElem?_replicate];split <;> rfl⟩
end Go.Proofs.YtbcbmkeeoognpaaGreatDoor

namespace Go.Proofs.YtbcbmkeeoognpaaGreatDoor
open Go.RowKit
def qiq (xs X:List Int) (n k:Nat):Prop:=X.length=n∧∀j,j<n→X[j]?.getD 0=if j<k∨n-1-j<k then xs[n-1-j]?.getD 0 else xs[j]?.getD 0
theorem qk2 (xs X:List Int) (n k m:Nat) (h:qiq xs X n k) (hkm:k<m) (hn:k+m+1=n) :
  qiq xs ((X.set k (X[m]?.getD 0)).set m (X[k]?.getD 0)) n (k+1):=by
 obtain ⟨h1,h2⟩:=h
 refine ⟨by simpa using h1,fun j hj=>?_⟩
 rw [List.getElem?_set,List.length_set]
 by_cases e1:m=j
 ·subst e1
  rw [if_pos rfl,if_pos (by omega),Option.getD_some,h2 k (by omega),if_neg (by omega),if_pos (by omega)]
  congr 2
  omega
 ·rw [if_neg e1,List.getElem?_set]
  by_cases e2:k=j
  ·subst e2
   rw [if_pos rfl,if_pos (by omega),Option.getD_some,h2 m (by omega),if_neg (by omega),if_pos (by omega)]
   congr 2
   omega
  ·rw [if_neg e2,h2 j hj]
   by_cases e3:j<k∨n-1-j<k
   ·rw [if_pos e3,if_pos (by omega)]
   ·rw [if_neg e3,if_neg (by omega)]
theorem qhr (xs:List Int) (n:Nat) (h:xs.length=n):qiq xs xs n 0:=⟨h,fun j hj=>by rw [if_neg (by omega)]⟩
theorem qmp (xs X:List Int) (n k m:Nat) (hx:xs.length=n) (h:qiq xs X n k) (hkm:¬k<m) (hn:k+m+1=n):X=xs.reverse:=by
 obtain ⟨h1,h2⟩:=h
 refine List.ext_getElem? fun j=>?_
 by_cases hj:j<n
 ·have e:=h2 j hj
  rw [List.getElem?_eq_getElem (by omega),Option.getD_some] at e
  rw [List.getElem?_reverse (by omega),List.getElem?_eq_getElem (by omega),e,hx]
  split
  ·rw [List.getElem?_eq_getElem (by omega),Option.getD_some]
  ·have:j=n-1-j:=by omega
   rw [List.getElem?_eq_getElem (show j<xs.length by omega),Option.getD_some,List.getElem?_eq_getElem (show n-1-j<xs.length by omega)]
   congr 1
   simp only [←this]
 ·rw [List.getElem?_eq_none (by omega),List.getElem?_eq_none (by simp;omega)]
def qok (w:World) (b:Nat) (t:TypeId) (xs:List Int) (e:Ending) (w':World):Prop:=
 e=.returned (.tuple #[])∧Aw w' b t .u8 xs.reverse∧Only b w w'
set_option maxHeartbeats 1000000 in
theorem Zj (b n c:Nat) (t:TypeId) (xs:List Int) (w:World) (hn:n≤140737488355328) (hnc:n≤c) (hx:Aw w b t .u8 xs) (hl:xs.length=n) :
  Calls Tryz.prog 124 #[.slice (some ⟨b,0,none⟩) n c] w (qok w b t xs):=by
 have HL:=Lib.hid hl
 unfold qok
 by_cases hn0:n=0
 ·subst hn0
  obtain rfl:xs=[]:=List.length_eq_zero_iff.1 hl
  clear hl HL
  go_enter Tryz.func124,Tryz.ntmps124
  go_wp2
  refine wp_loop_rounds 1 ?_
  rw [rounds_succ]
  go_wp2
  go_end0
  exact ⟨rfl,hx,Only.refl _ _⟩
 ·have hI:=qhr xs n hl
  obtain ⟨m0,rfl⟩:∃m0,n=m0+1:=⟨n-1,by omega⟩
  have HI:=Lib.hid hI
  clear hl hI hn0
  go_enter Tryz.func124,Tryz.ntmps124
  go_wp2
  go_loopw [2,3] (fun i j wr=>∃k m:Nat,∃X,i=.int .i64 k∧j=.int .i64 m∧Hid (k+m=m0)∧k≤m0∧m≤m0∧Hid (qiq xs X (m0+1) k)∧Aw wr b t .u8 X∧Only b w wr) (fun i j _=>m0-(intOf i).toNat)
  case atStart=>exact ⟨0,m0,xs,rfl,by first | rfl | (simp),Lib.hid (by omega),by omega,by omega,HI,hx,Only.refl _ _⟩
  case round=>
   clear hx HI
   obtain ⟨k,m,X,rfl,rfl,hkm,hk,hm,hX,hr,ho⟩:=hrel
   by_cases hlt:k<m
   ·have ck:=hr.cell k (by rw [hX.out.1];omega)
    have cm:=hr.cell m (by rw [hX.out.1];omega)
    have fk:=hr.free k
    have fm:=hr.free m
    have ST:=Lib.hid (qk2 xs X (m0+1) k m hX.out hlt (by have:=hkm.out;omega))
    have hkm':=Lib.hid (show k+1+(m-1)=m0 by have:=hkm.out;omega)
    have hne:k≠m:=by omega
    generalize X[k]?.getD 0=x at *
    generalize X[m]?.getD 0=y at *
    have R1:=fun (q:Nat)=>((hr.drewN q).set k y).set m x
    have R2:=fun (q:Nat)=>((hr.drewN q).set m x).set k y
    have O1:=fun (q:Nat)=>((ho.drewN q).set k (.int .u8 y)).set m (.int .u8 x)
    have O2:=fun (q:Nat)=>((ho.drewN q).set m (.int .u8 x)).set k (.int .u8 y)
    have hm1:((m:Int)-1)=((m-1:Nat):Int):=by omega
    have HM:=Lib.hid hm1
    clear hm1
    go_wp2_with fail
    go_region
    go_wp2
    go_roundw
    case rel=>
     first
      | exact ⟨k+1,m-1,_,by go_num,by rw [HM.out],hkm',by omega,by omega,ST,R1 1,O1 1⟩
      | exact ⟨k+1,m-1,_,by go_num,by rw [HM.out],hkm',by omega,by omega,ST,R1 0,O1 0⟩
    case measure=>simp [intOf];omega
   ·obtain rfl:=qmp xs X (m0+1) k m HL.out hX.out hlt (by have:=hkm.out;omega)
    go_wp2
    go_end0
    exact ⟨rfl,hr,ho⟩
theorem qmq (w:World):Calls Tryz.prog 124 #[.slice none 0 0] w (fun e w'=>e=.returned (.tuple #[])∧w=w'):=by
 go_enter Tryz.func124,Tryz.ntmps124
 go_wp2
 refine wp_loop_rounds 1 ?_
 rw [rounds_succ]
 go_wp2
 go_end0
 exact ⟨rfl,rfl⟩
end Go.Proofs.YtbcbmkeeoognpaaGreatDoor

namespace Go.Proofs.YtbcbmkeeoognpaaGreatDoor
def four (x:Int):List Int:=[x % 256,x / 256 % 256,x / 65536 % 256,x / 16777216 % 256]
theorem qjz (x:Int):Dig 256 (four x):=fun y hy=>by
 simp only [four,List.mem_cons,List.not_mem_nil,or_false] at hy
 omega
theorem qj0 (x:Int) (h:0≤x∧x<4294967296):val 256 (four x)=x:=by
 simp only [four,val]
 omega
theorem qgx (xs ds:List Int) (k:Nat) (hk:k<xs.length) (hl:ds.length=4*k) (h:val 256 ds=val 4294967296 (xs.take k)) (hx:0≤xs[k]?.getD 0∧xs[k]?.getD 0<4294967296) :
  (ds++four (xs[k]?.getD 0)).length=4*(k+1)∧val 256 (ds++four (xs[k]?.getD 0))=val 4294967296 (xs.take (k+1)):=by
 refine ⟨by rw [List.length_append,hl];simp [four];omega,?_⟩
 rw [val_append,hl,qco,qj0 _ hx,zy,h]
def y7 (cs:List Int):Int:=val 256 cs.reverse
theorem Lp (cs:List Int) (h:Dig 256 cs):0≤y7 cs:=zt (by omega) h.reverse
structure Le (rs out:List Int) (i:Nat):Prop where
 dig:Dig 4294967296 out
 worth:val 4294967296 out=val 256 (rs.take i)
 zero:∀q,i / 4<q→out[q]?.getD 0=0
 low:out[i / 4]?.getD 0<256 ^ (i % 4)
theorem qgb (rs out:List Int) (i:Nat) (hi:i<rs.length) (dr:Dig 256 rs) (ho:i / 4<out.length) (h:Le rs out i) (v:Int) (hv:v=out[i / 4]?.getD 0+rs[i]?.getD 0*256 ^ (i % 4)) :
  Le rs (out.set (i / 4) v) (i+1)∧0≤v∧v<4294967296:=by
 have bx:=dr.get (by omega) i
 have bo:=h.dig.get (by omega) (i / 4)
 have hl:=h.low
 have hz:i % 4<4:=Nat.mod_lt _ (by omega)
 have hpow:(256:Int) ^ i=4294967296 ^ (i / 4)*256 ^ (i % 4):=by
  rw [←qco,←Int.pow_add]
  congr 1
  omega
 have hvb:v<256 ^ (i % 4+1)∧0≤v:=by
  have hp:(0:Int)<256 ^ (i % 4):=Int.pow_pos (by omega)
  have h0:0≤rs[i]?.getD 0*256 ^ (i % 4):=Int.mul_nonneg bx.1 (Int.le_of_lt hp)
  have h1:(rs[i]?.getD 0+1)*256 ^ (i % 4)≤256*256 ^ (i % 4):=Int.mul_le_mul_of_nonneg_right (by omega) (Int.le_of_lt hp)
  rw [Int.add_mul,Int.one_mul] at h1
  rw [Int.pow_succ,Int.mul_comm _ 256]
  omega
 have hv2:v<4294967296:=by
  have:(256:Int) ^ (i % 4+1)≤256 ^ 4:=Ew (by omega) (by omega)
  rw [show (256:Int) ^ 4=4294967296 from by decide] at this
  omega
 refine ⟨⟨h.dig.set hvb.2 hv2 _,?_,fun q hq=>?_,?_⟩,hvb.2,hv2⟩
 ·rw [Nl _ _ _ _ ho,h.worth,zy,hpow,hv]
  generalize (4294967296:Int) ^ (i / 4)=A
  generalize (256:Int) ^ (i % 4)=D
  grind
 ·rw [List.getElem?_set_ne (by omega)]
  exact h.zero q (by omega)
 ·by_cases h3:i % 4=3
  ·rw [List.getElem?_set_ne (by omega),h.zero _ (by omega)]
   exact Int.pow_pos (by omega)
  ·rw [show (i+1) / 4=i / 4 by omega,List.getElem?_set_self ho,Option.getD_some,show (i+1) % 4=i % 4+1 by omega]
   exact hvb.1
theorem qdj (rs:List Int) (n:Nat):Le rs (List.replicate n 0) 0:=
 ⟨Dig.replicate _ (by omega) _,by rw [C9];simp [val],fun q _=>by simp [List.getElem?_replicate];split <;> rfl,by simp [List.getElem?_replicate];split <;> simp⟩
end Go.Proofs.YtbcbmkeeoognpaaGreatDoor

namespace Go.Proofs.YtbcbmkeeoognpaaGreatDoor
open Go.RowKit
def F5:List Int→Int→List Int
 | [],_=>[]
 | x :: l,c=>(255-x+c) % 256 :: F5 l (if (255-x+c) % 256=0 then c else 0)
def cyL:List Int→Int→Int
 | [],c=>c
 | x :: l,c=>cyL l (if (255-x+c) % 256=0 then c else 0)
theorem Lu (l:List Int) (c:Int):(F5 l c).length=l.length:=by
 induction l generalizing c with
 | nil=>rfl
 | cons x l ih=>simp [F5,ih]
theorem qds (l:List Int) (x c:Int):F5 (l++[x]) c=F5 l c++[(255-x+cyL l c) % 256]:=by
 induction l generalizing c with
 | nil=>rfl
 | cons y l ih=>simp [F5,cyL,ih]
theorem qja (l:List Int) (x c:Int):cyL (l++[x]) c=if (255-x+cyL l c) % 256=0 then cyL l c else 0:=by
 induction l generalizing c with
 | nil=>rfl
 | cons y l ih=>exact ih _
theorem Y4 (l:List Int) (c:Int):Dig 256 (F5 l c):=by
 induction l generalizing c with
 | nil=>exact Dig.nil _
 | cons x l ih=>exact Dig.cons (by omega) (by omega) (ih _)
theorem qnr (l:List Int) (c:Int) (h:c=0∨c=1):cyL l c=0∨cyL l c=1:=by
 induction l generalizing c with
 | nil=>exact h
 | cons x l ih=>exact ih _ (by split <;> omega)
theorem qgu (l:List Int) (d:Dig 256 l):val 256 (F5 l 0)=256 ^ l.length-1-val 256 l:=by
 induction l with
 | nil=>simp [F5,val]
 | cons x l ih=>
  have hx:=d.head
  have e:F5 (x :: l) 0=(255-x+0) % 256 :: F5 l 0:=by show _ :: F5 l (if (255-x+0) % 256=0 then 0 else 0)=_;split <;> rfl
  rw [e]
  simp only [val,List.length_cons,Int.pow_succ]
  rw [ih d.tail]
  omega
theorem Y5 (l:List Int) (d:Dig 256 l):val 256 (F5 l 1)=if val 256 l=0 then 0 else 256 ^ l.length-val 256 l:=by
 induction l with
 | nil=>simp [F5,val]
 | cons x l ih=>
  have hx:=d.head
  have hv:=zt (show (0:Int)<256 by omega) d.tail
  by_cases h0:x=0
  ·subst h0
   have e:F5 (0 :: l) 1=0 :: F5 l 1:=rfl
   rw [e]
   simp only [val,List.length_cons,Int.pow_succ]
   rw [ih d.tail]
   by_cases hz:val 256 l=0
   ·rw [if_pos hz,if_pos (by omega)];omega
   ·rw [if_neg hz,if_neg (by omega)];omega
  ·have e:F5 (x :: l) 1=(255-x+1) % 256 :: F5 l 0:=by show _ :: F5 l (if (255-x+1) % 256=0 then 1 else 0)=_;rw [if_neg (by omega)]
   rw [e]
   simp only [val,List.length_cons,Int.pow_succ]
   rw [qgu l d.tail,if_neg (by omega)]
   omega
def zk (xs:List Int):List Int:=(F5 xs.reverse 1).reverse
theorem Qg (xs:List Int):(zk xs).length=xs.length:=by simp [zk,Lu]
theorem qgs (xs:List Int):Dig 256 (zk xs):=fun x hx=>Y4 _ _ x (List.mem_reverse.1 hx)
def Hm (xs X:List Int) (k:Nat) (c:Int):Prop:=X=(F5 (xs.reverse.take k) 1++xs.reverse.drop k).reverse∧c=cyL (xs.reverse.take k) 1
theorem Hm.start (xs:List Int):Hm xs xs 0 1:=⟨by simp [F5],rfl⟩
theorem Hm.length {xs X:List Int} {k:Nat} {c:Int} (h:Hm xs X k c) (hk:k≤xs.length):X.length=xs.length:=by
 rw [h.1,List.length_reverse,List.length_append,Lu,List.length_take,List.length_drop,List.length_reverse]
 omega
theorem Hm.end {xs X:List Int} {c:Int} (h:Hm xs X xs.length c):X=zk xs:=by
 rw [h.1,List.take_of_length_le (by simp),List.drop_of_length_le (by simp),List.append_nil]
 rfl
theorem Hm.bd {xs X:List Int} {k:Nat} {c:Int} (h:Hm xs X k c):c=0∨c=1:=by rw [h.2];exact qnr _ _ (.inr rfl)
theorem Hm.step {xs X:List Int} {k r:Nat} {c:Int} (h:Hm xs X k c) (hr:k+(r+1)=xs.length) :
  X[r]?.getD 0=xs[r]?.getD 0∧Hm xs (X.set r ((255-xs[r]?.getD 0+c) % 256)) (k+1) (if (255-xs[r]?.getD 0+c) % 256=0 then c else 0):=by
 obtain ⟨h1,h2⟩:=h
 have hl:xs.reverse.length=xs.length:=List.length_reverse
 have hk:k<xs.reverse.length:=by omega
 have e1:xs[r]?.getD 0=xs.reverse[k]:=by
  rw [List.getElem_reverse,List.getElem?_eq_getElem (by omega),Option.getD_some]
  congr 1
  omega
 have e2:xs.reverse.drop k=xs.reverse[k] :: xs.reverse.drop (k+1):=List.drop_eq_getElem_cons hk
 have e3:xs.reverse.take (k+1)=xs.reverse.take k++[xs.reverse[k]]:=by rw [List.take_add_one,List.getElem?_eq_getElem hk];rfl
 have e4:(xs.reverse.drop (k+1)).reverse.length=r:=by rw [List.length_reverse,List.length_drop];omega
 rw [e1]
 generalize xs.reverse[k]=x at *
 have e5:X=(xs.reverse.drop (k+1)).reverse++x :: (F5 (xs.reverse.take k) 1).reverse:=by rw [h1,e2,List.reverse_append,List.reverse_cons,List.append_assoc];rfl
 refine ⟨?_,?_,?_⟩
 ·rw [e5,List.getElem?_append_right (by omega),e4,Nat.sub_self];rfl
 ·rw [e3,qds,←h2,e5,List.set_append_right _ _ (by omega),e4,Nat.sub_self,List.reverse_append,List.reverse_append]
  simp
 ·rw [e3,qja,←h2]
theorem qll (x:Int) (h:0≤x∧x<256):bits .xor .u8 255 x=255-x:=by
 obtain ⟨x,rfl⟩:=Int.eq_ofNat_of_zero_le h.1
 have hx:x<256:=by omega
 have h2:(BitVec.ofInt 8 (x:Int)).toNat=x:=by
  rw [BitVec.ofInt_natCast,BitVec.toNat_ofNat];exact Nat.mod_eq_of_lt (by omega)
 show IntKind.u8.wrap ((BitVec.ofInt 8 255 ^^^ BitVec.ofInt 8 (x:Int)).toNat:Int)=_
 rw [show BitVec.ofInt 8 255=BitVec.allOnes 8 from by decide,BitVec.allOnes_xor,BitVec.toNat_not,h2]
 simp [IntKind.wrap,IntKind.bits,IntKind.signed]
 omega
set_option maxHeartbeats 1000000 in
theorem L6 (b n c:Nat) (t:TypeId) (xs:List Int) (w:World) (hn:n≤140737488355328) (hnc:n≤c) (hx:Aw w b t .u8 xs) (hd:Dig 256 xs) (hl:xs.length=n) :
  Calls Tryz.prog 207 #[.slice (some ⟨b,0,none⟩) n c] w (fun e w'=>e=.returned (.tuple #[])∧Aw w' b t .u8 (zk xs)∧Only b w w'):=by
 have HL:=Lib.hid hl
 have HD:=Lib.hid hd
 have HI:=Lib.hid (Hm.start xs)
 obtain ⟨res,hres⟩:∃r,r=zk xs:=⟨_,rfl⟩
 rw [←hres]
 have HRES:=Lib.hid hres
 clear hl hd hres
 go_enter Tryz.func207,Tryz.ntmps207
 go_wp2
 go_loopw [2,3] (fun cv i wr=>∃(r k:Nat) (cy:Int) (X:List Int),cv=.int .u8 cy∧i=.int .i64 ((r:Int)-1)∧Hid (k+r=n)∧r≤n∧Hid (Hm xs X k cy)∧Aw wr b t .u8 X∧Only b w wr) (fun _ i _=>((intOf i)+1).toNat)
 case atStart=>exact ⟨n,0,1,xs,rfl,rfl,Lib.hid (by omega),Nat.le_refl _,HI,hx,Only.refl _ _⟩
 case round=>
  clear hx HI
  obtain ⟨r,k,cy,X,rfl,rfl,hkr,hrn,hI,hr,ho⟩:=hrel
  rcases r with _ | r
  ·have hX:Hid (X=res):=Lib.hid (by
    have:=hI.out
    rw [show k=xs.length by have:=hkr.out;have:=HL.out;omega] at this
    rw [HRES.out]
    exact this.end)
   go_wp2
   go_end0
   exact ⟨rfl,by rw [←hX.out];exact hr,ho⟩
  ·obtain ⟨q1,q2⟩:=hI.out.step (r:=r) (by have:=hkr.out;have:=HL.out;omega)
   have hXl:X.length=n:=by rw [hI.out.length (by have:=hkr.out;have:=HL.out;omega),HL.out]
   have cm:=hr.cell r (by omega)
   have fm:=hr.free r
   have hcy:=hI.out.bd
   have bx:=HD.out.get (by omega) r
   rw [q1] at cm
   clear hXl q1
   generalize xs[r]?.getD 0=x at *
   have X1:bits .xor .u8 (if IntKind.u8.signed=true then -1 else IntKind.u8.max) x=255-x:=qll x bx
   obtain ⟨v,hv⟩:∃v,(255-x+cy) % 256=v:=⟨_,rfl⟩
   rw [hv] at q2
   have W1:(255-x+cy) % 256=v:=hv
   have W2:IntKind.u8.wrap (255-x+cy)=v:=by rw [←hv];simp [IntKind.wrap,IntKind.bits,IntKind.signed]
   have hvb:0≤v∧v<256:=by omega
   have e1:(((r+1:Nat):Int)-1)=(r:Int):=by omega
   have Q2:=Lib.hid q2
   have hkr':=Lib.hid (show k+1+r=n by have:=hkr.out;omega)
   have R1:=hr.set r v
   have O1:=ho.set r (.int .u8 v)
   rw [e1]
   clear hv q2
   by_cases hv0:v=0
   ·have hz:(v != 0)=false:=by rw [hv0];rfl
    have Q3:Hid (Hm xs (X.set r v) (k+1) cy):=Lib.hid (by have:=Q2.out;rwa [if_pos hv0] at this)
    clear hv0 Q2 hr ho
    go_wp2_with fail
    go_roundw
    case rel=>exact ⟨r,k+1,_,_,rfl,by go_num,hkr',by omega,Q3,R1,O1⟩
    case measure=>simp [intOf]
   ·have hz:(v != 0)=true:=by simpa using hv0
    have Q3:Hid (Hm xs (X.set r v) (k+1) 0):=Lib.hid (by have:=Q2.out;rwa [if_neg hv0] at this)
    clear hv0 Q2 hr ho
    go_wp2_with fail
    go_roundw
    case rel=>exact ⟨r,k+1,_,_,rfl,by go_num,hkr',by omega,Q3,R1,O1⟩
    case measure=>simp [intOf]
end Go.Proofs.YtbcbmkeeoognpaaGreatDoor

namespace Go.Proofs.YtbcbmkeeoognpaaGreatDoor
open Go.RowKit
end Go.Proofs.YtbcbmkeeoognpaaGreatDoor

namespace Go.Proofs.YtbcbmkeeoognpaaGreatDoor
open Go.RowKit
end Go.Proofs.YtbcbmkeeoognpaaGreatDoor

namespace Go.Proofs.YtbcbmkeeoognpaaGreatDoor
open Go.RowKit
end Go.Proofs.YtbcbmkeeoognpaaGreatDoor

namespace Go.Proofs.YtbcbmkeeoognpaaGreatDoor
open Go.RowKit
def qnc (w:World) (xs zs:List Int) (k:Nat) (c:Int) (v:Value) (wr:World):Prop:=
 ∃ad cp ds,v=.slice ad k cp∧App w.heap.size wr 3 .i64 ad k cp ds∧Dig 256 ds∧Below w.heap.size w wr∧w.heap.size≤wr.heap.size∧0≤c∧c≤1 ∧
  val 256 ds+val 256 (zs.take k)=val 256 (xs.take k)+c*256 ^ k
theorem qhs (xs zs ds:List Int) (k:Nat) (hk:ds.length=k) (c D c':Int) (hD:D=xs[k]?.getD 0-zs[k]?.getD 0-c+c'*256)
  (E:val 256 ds+val 256 (zs.take k)=val 256 (xs.take k)+c*256 ^ k) :
  val 256 (ds++[D])+val 256 (zs.take (k+1))=val 256 (xs.take (k+1))+c'*256 ^ (k+1):=by
 rw [Ob,hk,zy,zy,Int.pow_succ]
 generalize xs[k]?.getD 0=x at *
 generalize zs[k]?.getD 0=z at *
 generalize (256:Int) ^ k=P at *
 generalize val 256 ds=Y at *
 generalize val 256 (xs.take k)=X at *
 generalize val 256 (zs.take k)=Z at *
 subst hD
 grind
set_option maxHeartbeats 1000000 in
theorem qeo (ad bd:Option Addr) (na nb ca cb:Nat) (la lb:List Int) (w:World) (hna:na≤1099511627776) (hnb:nb≤1099511627776)
  (ha:Rds w .u32 ad na la) (hb:Rds w .u32 bd nb lb) (da:Dig 4294967296 la) (db:Dig 4294967296 lb) :
  Calls Tryz.prog 210 #[.slice ad na ca,.slice bd nb cb] w (P7 44 .u32 (dg 4294967296 (val 4294967296 la-val 4294967296 lb)) (decide (val 4294967296 lb≤val 4294967296 la)) w):=by
 have hc:=Lib.hid (qek ad bd na nb ca cb la lb w hna hnb ha hb da db)
 by_cases hle:val 4294967296 lb≤val 4294967296 la
 ·have hcn:¬(D5 (val 4294967296 la) (val 4294967296 lb))<0:=by unfold D5;split <;> (try split) <;> omega
  have HD:=Lib.hid (decide_eq_true hle)
  have HLE:=Lib.hid hle
  generalize D5 (val 4294967296 la) (val 4294967296 lb)=cc at *
  have l1:=Gg ha.len da
  have l2:=Gg hb.len db
  have C1:=Lib.hid (fun (w1:World) (h:Below w.heap.size w w1)=>D9 ad na ca la w1 (by omega) (ha.below h (Nat.le_refl _)) da)
  have C2:=Lib.hid (fun (w1:World) (h:Below w.heap.size w w1)=>D9 bd nb cb lb w1 (by omega) (hb.below h (Nat.le_refl _)) db)
  have vx:=Lib.hid (Bz 256 (by omega) (val 4294967296 la) (zt (by omega) da))
  have vz:=Lib.hid (Bz 256 (by omega) (val 4294967296 lb) (zt (by omega) db))
  have nz:=Lib.hid (J3 256 (by omega) (val 4294967296 lb))
  have dx:Dig 256 (dg 256 (val 4294967296 la)):=A8 256 (by omega) _
  have dz:Dig 256 (dg 256 (val 4294967296 lb)):=A8 256 (by omega) _
  clear ha hb da db hle
  generalize dg 256 (val 4294967296 la)=xs at *
  generalize dg 256 (val 4294967296 lb)=zs at *
  have hle2:zs.length≤xs.length:=by
   rcases Nat.lt_or_ge xs.length zs.length with h | h
   ·have:=Ij (b:=256) (by omega) dx dz nz.out h
    rw [show val 256 xs=val 4294967296 la from vx.out,show val 256 zs=val 4294967296 lb from vz.out] at this
    have:=HLE.out
    omega
   ·exact h
  go_enter Tryz.func210,Tryz.ntmps210
  go_wp2_with fail
  refine (hc.out).mono ?_
  rintro e w0 ⟨rfl,b0⟩
  have C1':=Lib.hid (C1.out w0 b0)
  clear C1 hc
  go_wp2_with fail
  refine (C1'.out).mono ?_
  rintro e w1 ⟨xd,m,cx,rfl,ox,b1⟩
  have b01:=qw b0 b1
  have C2':=Lib.hid (C2.out w1 b01)
  clear C2 C1'
  go_wp2_with fail
  refine (C2'.out).mono ?_
  rintro e w2 ⟨zd,n,cz,rfl,oz,b2⟩
  clear C2'
  have rx:=(ox.below b2 (Nat.le_refl _)).rds
  have rz:=oz.rds
  have BB:=qw b01 b2
  have HM:=Lib.hid rx.len
  have HN:=Lib.hid rz.len
  rw [HM.out] at l1 hle2
  rw [HN.out] at l2 hle2
  clear ox oz b1 b2 b0 b01
  have hr0:qnc w2 xs zs 0 0 (.slice none 0 0) w2:=⟨none,0,[],rfl,App.nil _ _ _ _,Dig.nil _,Below.refl _ _,Nat.le_refl _,by omega,by omega,by simp [val]⟩
  go_wp2_with fail
  go_loopw [10,9,8] (fun i cy v wr=>∃k:Nat,∃c:Int,k≤m∧i=.int .i64 k∧cy=.int .i64 c∧qnc w2 xs zs k c v wr) (fun i _ _ _=>m-(intOf i).toNat)
  case atStart=>exact ⟨0,0,by omega,rfl,rfl,hr0⟩
  case round=>
   clear hr0
   obtain ⟨k,c,hk,rfl,rfl,ad3,c3,ds,rfl,g1,g2,g3,g4,g5,g6,g7⟩:=hrel
   have H7:=Lib.hid g7
   clear g7
   by_cases hkm:k<m
   ·obtain ⟨a,rfl,hxl⟩:=(rx.below g3 (Nat.le_refl _)).cell k hkm
    have a2:=Lib.hid (fun w3 (h:Rds w3 .i64 zd n zs)=>Uy zd n cz zs k w3 (by omega) h)
    have rz':=rz.below g3 (Nat.le_refl _)
    have bx:=dx.get (by omega) k
    have bz:=dz.get (by omega) k
    have HE:=Lib.hid (fun D c' hD=>qhs xs zs ds k g1.len c D c' hD H7.out)
    clear H7
    generalize xs[k]?.getD 0=x at *
    generalize zs[k]?.getD 0=z at *
    have W1:IntKind.i64.wrap (x-z)=x-z:=IntWalk.i64_in _ (by omega)
    have W2:IntKind.i64.wrap (x-z-c)=x-z-c:=IntWalk.i64_in _ (by omega)
    go_wp2_with fail
    go_quiet ((go_at_call 204;exact Nj (a2.out _ (rz'.drewN _))))
    clear W1 W2
    have g1':=g1.drewN nq
    have g3':=below_drewN g3 nq
    have g4':w2.heap.size≤(wr.drewN nq).heap.size:=g4
    clear g1 g3 g4 a2 rz' hxl
    generalize wr.drewN nq=w3 at *
    by_cases hs:x-z-c<0
    ·go_wp2_with (at_builtin;refine Jf w2.heap.size rfl (.tmp 40) (.tmp 42) 188 3 .i64 8 rfl Tryz.underlying188 Hr (by omega) ad3 k c3 ds (x-z-c+256) rfl rfl g1' g3' g4' (by omega) ?_;intro ad4 c4 w4 k1 k2 k3)
     go_roundw
     case rel=>exact ⟨k+1,1,by omega,by go_num,rfl,ad4,c4,_,rfl,k1,g2.append (Dig.cons (by omega) (by omega) (Dig.nil _)),k2,k3,by omega,by omega,HE.out _ 1 (by omega)⟩
     case measure=>simp [intOf];omega
    ·go_wp2_with (at_builtin;refine Jf w2.heap.size rfl (.tmp 40) (.tmp 42) 188 3 .i64 8 rfl Tryz.underlying188 Hr (by omega) ad3 k c3 ds (x-z-c) rfl rfl g1' g3' g4' (by omega) ?_;intro ad4 c4 w4 k1 k2 k3)
     go_roundw
     case rel=>exact ⟨k+1,0,by omega,by go_num,rfl,ad4,c4,_,rfl,k1,g2.append (Dig.cons (by omega) (by omega) (Dig.nil _)),k2,k3,by omega,by omega,HE.out _ 0 (by omega)⟩
     case measure=>simp [intOf];omega
   ·obtain rfl:k=m:=by omega
    have hv:val 256 ds=val 4294967296 la-val 4294967296 lb:=by
     have h1:=qfs 256 (by omega) xs zs ds k g2 HM.out (by rw [HN.out];exact hle2) g1.len c g5 (by rw [show val 256 xs=val 4294967296 la from vx.out,show val 256 zs=val 4294967296 lb from vz.out];exact HLE.out)
      (by rw [List.take_of_length_le (show ds.length≤k by rw [g1.len];exact Nat.le_refl _)];exact H7.out)
     rw [show val 256 xs=val 4294967296 la from vx.out,show val 256 zs=val 4294967296 lb from vz.out] at h1
     exact h1
    have hl:=I8 ad3 k c3 ds wr (by omega) g1.own.le g1.rds g2
    rw [hv] at hl
    have HL:=Lib.hid hl
    clear hv hl
    go_wp2_with fail
    refine (HL.out).mono ?_
    rintro e w' hr
    obtain ⟨rd,nr,cr,rfl,or,br⟩:=hr.after (qw BB g3)
    go_wp2_with fail
    go_ret2
    rw [HD.out]
    exact ⟨_,_,_,rfl,or,br⟩
 ·have hcn:(D5 (val 4294967296 la) (val 4294967296 lb))<0:=by unfold D5;split <;> omega
  have HD:=Lib.hid (decide_eq_false hle)
  have HZ:=Lib.hid (show dg 4294967296 (val 4294967296 la-val 4294967296 lb)=[] by
   unfold dg
   rw [N8 _ _ (by omega)]
   omega)
  generalize D5 (val 4294967296 la) (val 4294967296 lb)=cc at *
  clear hle
  go_enter Tryz.func210,Tryz.ntmps210
  go_wp2_with fail
  refine (hc.out).mono ?_
  rintro e w' ⟨rfl,b0⟩
  go_wp2
  go_ret2
  rw [HD.out,HZ.out]
  exact ⟨none,0,0,rfl,Own.nil _ _ _ _ _,b0⟩
end Go.Proofs.YtbcbmkeeoognpaaGreatDoor

namespace Go.Proofs.YtbcbmkeeoognpaaGreatDoor
open Go.RowKit
end Go.Proofs.YtbcbmkeeoognpaaGreatDoor

namespace Go.Proofs.YtbcbmkeeoognpaaGreatDoor
open Go.RowKit
end Go.Proofs.YtbcbmkeeoognpaaGreatDoor

namespace Go.Proofs.YtbcbmkeeoognpaaGreatDoor
theorem Zh:∀(xs:List Int),jk (asc xs).reverse=val 10 xs
 | []=>rfl
 | x :: xs=>by
  have ih:=Zh xs
  rw [show asc (x :: xs)=(x+48) :: asc xs from rfl,List.reverse_cons,Pv,ih]
  simp only [val]
  omega
theorem qho (A:Int) (hA:0≤A):jk (Gw A)=A:=by
 rw [Qz,Zh,qje A hA]
theorem qbv (A:Int):(Gw A).length=(qbu A).length:=by rw [Qz,List.length_reverse,Ep]
theorem qjg (A:Int) (hA:0≤A):0<(Gw A).length:=by rw [qbv];exact qjd A hA
theorem qjh (A:Int) (hA:0≤A) (h:1<(Gw A).length):(Gw A)[0]?.getD 0≠48:=by
 have hA0:A≠0:=by
  intro e
  rw [e] at h
  simp [Gw] at h
 rw [Qz] at h ⊢
 unfold qbu at h ⊢
 rw [if_neg hA0] at h ⊢
 rw [List.length_reverse,Ep] at h
 obtain ⟨m,hm⟩:∃m,(dg 10 A).length=m+1:=⟨(dg 10 A).length-1,by omega⟩
 have:=Oo (b:=10) (J3 10 (by omega) A) m hm
 rw [List.getElem?_reverse (by rw [Ep];omega),Ep,hm,Nat.add_sub_cancel,Nat.sub_zero]
 unfold asc
 rw [List.getElem?_map,List.getElem?_eq_getElem (by omega)]
 rw [List.getElem?_eq_getElem (by omega),Option.getD_some] at this
 simp only [Option.map_some,Option.getD_some]
 omega
theorem qji (A g:Int) (hA:0<A) (hg:0≤g∧g<10):Gw (A*10+g)=Gw A++[48+g]:=by
 unfold Gw
 rw [if_neg (by omega),if_neg (by omega),Q5 10 _ (by omega) (by omega),show (A*10+g) % ((10:Nat):Int)=g by omega,show (A*10+g) / ((10:Nat):Int)=A by omega,
  show asc (g :: dg 10 A)=(g+48) :: asc (dg 10 A) from rfl,List.reverse_cons,Int.add_comm g 48]
theorem qgn (g:Int) (hg:0≤g∧g<10):Gw g=[48+g]:=by
 unfold Gw
 by_cases h:g=0
 ·rw [if_pos h,h];rfl
 ·rw [if_neg h,Q5 10 _ (by omega) (by omega),show g % ((10:Nat):Int)=g by omega,show g / ((10:Nat):Int)=0 by omega,Ak]
  simp [asc,Int.add_comm]
end Go.Proofs.YtbcbmkeeoognpaaGreatDoor

namespace Go.Proofs.YtbcbmkeeoognpaaGreatDoor
open Go.RowKit
end Go.Proofs.YtbcbmkeeoognpaaGreatDoor

namespace Go.Proofs.YtbcbmkeeoognpaaGreatDoor
open Go.RowKit
end Go.Proofs.YtbcbmkeeoognpaaGreatDoor

namespace Go.Proofs.YtbcbmkeeoognpaaGreatDoor
open Go.RowKit
structure Ux (w:World):Prop where
 c0:w.cell? ⟨2,0,none⟩=some (.int .i64 10)
 c1:w.cell? ⟨2,1,none⟩=some (.int .i64 (-24))
 c2:w.cell? ⟨2,2,none⟩=some (.int .i64 5)
 c3:w.cell? ⟨2,3,none⟩=some (.int .i64 23)
 c4:w.cell? ⟨2,4,none⟩=some (.int .i64 (-149))
 c5:w.cell? ⟨2,5,none⟩=some (.int .i64 8)
 c6:w.cell? ⟨2,6,none⟩=some (.int .i64 52)
 c7:w.cell? ⟨2,7,none⟩=some (.int .i64 (-1074))
 c8:w.cell? ⟨2,8,none⟩=some (.int .i64 11)
theorem Ux.below {w w1:World} (h:Ux w) {B:Nat} (hb:Below B w w1) (hB:w.heap.size≤B):Ux w1:=
 ⟨jd hb hB h.c0,jd hb hB h.c1,jd hb hB h.c2,jd hb hB h.c3,jd hb hB h.c4,jd hb hB h.c5,jd hb hB h.c6,jd hb hB h.c7,jd hb hB h.c8⟩
end Go.Proofs.YtbcbmkeeoognpaaGreatDoor

namespace Go.Proofs.YtbcbmkeeoognpaaGreatDoor
theorem qhd (F:Nat):Ws F 0=0:=by
 unfold Ws
 rw [if_pos (Nat.two_pow_pos F)]
theorem Vz (F U X:Nat):∀I,∃low,low≤I∧Ws F low*U≤X∧(low<I→X<Ws F (low+1)*U)
 | 0=>⟨0,Nat.le_refl _,by rw [qhd];omega,fun h=>absurd h (Nat.lt_irrefl _)⟩
 | I+1=>by
  obtain ⟨low,h1,h2,h3⟩:=Vz F U X I
  by_cases h:low<I
  ·exact ⟨low,by omega,h2,fun _=>h3 h⟩
  ·obtain rfl:low=I:=by omega
   by_cases h4:Ws F (low+1)*U≤X
   ·exact ⟨low+1,Nat.le_refl _,h4,fun h=>absurd h (Nat.lt_irrefl _)⟩
   ·exact ⟨low,by omega,h2,fun _=>by omega⟩
theorem V7 (F I U X:Nat):∃r,Zv F I U X r:=by
 obtain ⟨low,h1,h2,h3⟩:=Vz F U X I
 exact ⟨_,low,h1,h2,h3,rfl⟩
noncomputable def qou (F I U X:Nat):Nat:=Classical.choose (V7 F I U X)
theorem Zv.le {F I U X r:Nat} (h:Zv F I U X r):r≤I:=by
 obtain ⟨low,h1,h2,h3,rfl⟩:=h
 split
 ·omega
 ·split <;> omega
def rU (L e:Int):Nat:=2 ^ (L-e).toNat
def rX (L e:Int) (M:Nat):Nat:=M*2 ^ (e-L).toNat
def qo6 (W:Nat):Nat:=(2 ^ shE W-1)*2 ^ shF W
noncomputable def qot (W:Nat) (M:Nat) (e:Int):Nat:=qou (shF W) (qo6 W) (rU (shL W) e) (rX (shL W) e M)
end Go.Proofs.YtbcbmkeeoognpaaGreatDoor

namespace Go.Proofs.YtbcbmkeeoognpaaGreatDoor
open Go.RowKit
end Go.Proofs.YtbcbmkeeoognpaaGreatDoor

namespace Go.Proofs.YtbcbmkeeoognpaaGreatDoor
open Go.RowKit
end Go.Proofs.YtbcbmkeeoognpaaGreatDoor
